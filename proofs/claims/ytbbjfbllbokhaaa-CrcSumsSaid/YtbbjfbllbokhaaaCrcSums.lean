/- CrcSums: for every input the law returns true, and what was handed in reads as it did. No condition. -/
import Derived.Test.YtbbjfbllbokhaaaRows
import Derived.WalkKit
import Derived.ProofKit
import Derived.OpenShut
import Derived.ShutString
import Derived.ChangeOld
import Derived.Below
import Derived.Test.YtbbjfbllbokhaaaCrcWalks
import Derived.Deep.RegionWith
namespace Go.Proofs.Ytbbjfbllbokhaaa
open Go.RowKit
theorem sums_known (a : Option Addr) (n cap : Nat) (c : Int) (at_ : Int) (w : World) (hn : n ≤ 9223372036854775807) (h : (3000 < n) ∨ (n ≤ 3000 ∧ at_ < 0) ∨ (n ≤ 3000 ∧ 0 ≤ at_ ∧ (n : Int) < at_)) :
    Calls Try.prog 3 #[.slice a n cap, .int .u32 c, .int .i64 at_] w fun e w' => e = .returned (.bool true) ∧ Below w.heap.size w w' := by
  rcases h with h | ⟨h0, h⟩ | ⟨h0, h1, h⟩
  · have g1 : (3000 : Int) < (n : Int) := by omega
    go_enter Try.func3, Try.ntmps3
    go_wp2_with (go_at_call 4; refine (known_any _).mono ?_; rintro e w' ⟨rfl, hB⟩)
    go_ret
    exact ⟨rfl, hB⟩
  · have g1 : ¬ (3000 : Int) < (n : Int) := by omega
    go_enter Try.func3, Try.ntmps3
    go_wp2_with (go_at_call 4; refine (known_any _).mono ?_; rintro e w' ⟨rfl, hB⟩)
    go_ret
    exact ⟨rfl, hB⟩
  · have g1 : ¬ (3000 : Int) < (n : Int) := by omega
    have g2 : ¬ at_ < 0 := by omega
    go_enter Try.func3, Try.ntmps3
    go_wp2_with (go_at_call 4; refine (known_any _).mono ?_; rintro e w' ⟨rfl, hB⟩)
    go_ret
    exact ⟨rfl, hB⟩
set_option maxHeartbeats 800000 in
theorem sums_main (a : Option Addr) (l : List UInt8) (cap : Nat) (C : BitVec 32) (at_ : Nat) (w : World) (ha : BytesAt w a l) (hl : l.length ≤ 3000) (hat : at_ ≤ l.length) (hc1 : l.length ≤ cap) (hc2 : cap ≤ 9223372036854775807) :
    Calls Try.prog 3 #[.slice a l.length cap, .int .u32 C.toNat, .int .i64 at_] w fun e w' => e = .returned (.bool true) ∧ Below w.heap.size w w' := by
  obtain ⟨i0, hi0, hz0, hz1, hz2⟩ := info_parts (show (Try.prog.info? 5).map (fun i => (i.zero, i.size, i.bytes)) = some (some (.int .u8 0), 1, 1) by kernel_rfl)
  have HL1 := Lib.hid hi0
  have HL2 := Lib.hid hz0
  have HL3 := Lib.hid hz1
  have HL4 := Lib.hid hz2
  clear hi0 hz0 hz1 hz2
  have g1 : ¬ (3000 : Int) < (l.length : Int) := by omega
  have g2 : ¬ (at_ : Int) < 0 := by omega
  have g3 : ¬ (l.length : Int) < (at_ : Int) := by omega
  go_enter Try.func3, Try.ntmps3
  go_wp2_with (at_builtin; refine wpList_append_rd _ rfl _ _ _ rfl w.heap.size 5 i0 _ 1 1 Try.underlying22 HL1.out HL2.out HL3.out HL4.out rfl (by omega) (.slice none 0 0) 0 [] rfl ⟨by simp, .inl ⟨rfl, rfl⟩⟩ a l.length cap (bcells l) rfl (by simp [bcells]) ha (bcells_one l) (by simp only [maxLen]; omega) (by omega) (Nat.le_refl _) ?_; intro v1 w1 hown1 hg1 hat1; simp only [Nat.zero_add, List.nil_append] at hown1; obtain ⟨A1, c1, rfl, hr1, hc11, hc12⟩ := Rd.of_own hown1; have hB1 : Below w.heap.size w w1 := (Below.refl _ _).grown hg1 (Nat.le_refl _) (by simp [Value.ownBlock]))
  have ha1 : BytesAt w1 a l := ha.below hB1 (Nat.le_refl _)
  have hr1' : BytesAt w1 A1 l := hr1
  clear hown1 hg1 hat1 hr1
  refine (Sum_any _ l _ _ hr1' (by omega)).mono ?_
  rintro e w2 ⟨rfl, hB2⟩
  have ha2 := ha1.below hB2 (Nat.le_refl _)
  have hr2 := hr1'.below hB2 (Nat.le_refl _)
  go_wp2_with (go_at_call 6; refine (refSum_any _ l _ _ ha2 (by omega)).mono ?_; rintro e w' ⟨rfl, rfl⟩)
  refine (More_any C _ l _ _ hr2 (by omega)).mono ?_
  rintro e w3 ⟨rfl, hB3⟩
  have ha3 := ha2.below hB3 (Nat.le_refl _)
  have hr3 := hr2.below hB3 (Nat.le_refl _)
  have s1 := ha3.str 22 5 9 cap Try.underlying22 Try.underlying5 Try.underlying9
  have s2 := hr3.str 22 5 9 c1 Try.underlying22 Try.underlying5 Try.underlying9
  go_wp2_with (go_at_call 8; refine (refMore_any C _ l _ _ ha3 (by omega)).mono ?_; rintro e w' ⟨rfl, rfl⟩)
  have hp1 : (0 : Int) ≤ (at_ : Int) := by omega
  have hp2 : (at_ : Int) ≤ (cap : Int) := by omega
  have hp3 : (at_ : Int) ≤ (l.length : Int) := by omega
  have b1 := BytesAt.take ha3 at_
  have b2 := BytesAt.cut ha3 cap hat hc1
  have k1 := More_any C a (l.take at_) cap w3.drew b1 (by simp; omega)
  rw [List.length_take, Nat.min_eq_left hat] at k1
  have hsum : crcMore (crcMore C (l.take at_)) (l.drop at_) = crcMore C l := by
    unfold crcMore; rw [← CrcP.more_append, ← List.map_append, List.take_append_drop]
  have k2 := fun (W : World) (A : Option Addr) (c : Nat) (h : BytesAt W A (l.drop at_)) => More_any (crcMore C (l.take at_)) A (l.drop at_) c W h (by simp; omega)
  rw [hsum] at k2
  simp only [List.length_drop] at k2
  have K1 := Lib.hid k1
  have K2 := Lib.hid k2
  clear k1 k2 hsum b1
  obtain ⟨A2, hA2, hcap⟩ : ∃ A2, (if cap = at_ then a else Option.map (fun x => x.add at_) a) = A2 ∧ (cap = at_ ∨ ¬ cap = at_) := ⟨_, rfl, Decidable.em _⟩
  rw [hA2] at b2
  rcases hcap with hcap | hcap
  · subst hcap
    rw [if_pos rfl] at hA2
    subst hA2
    have k2 := K2.out
    rw [show l.length - cap = 0 from by omega] at k2
    clear K2
    have K2 := Lib.hid k2
    clear k2
    have ha3d : BytesAt w3.drew a l := ha3
    have b2d := b2.drew
    go_region_with (first
      | (go_at_call 7; with_reducible refine K1.out.mono ?_; rintro e w4 ⟨rfl, hB4⟩; have ha4 := BytesAt.below ha3d hB4 (Nat.le_refl _); have hr4 := BytesAt.below b2d hB4 (Nat.le_refl _))
      | (go_at_call 7; with_reducible refine (K2.out _ _ _ (by exact hr4)).mono ?_; rintro e w5 ⟨rfl, hB5⟩; have ha5 := BytesAt.below ha4 hB5 (Nat.le_refl _))
      | (go_at_call 8; with_reducible refine (refMore_any _ _ _ _ _ ha5 (by omega)).mono ?_; rintro e w6 ⟨rfl, rfl⟩)
      | (go_at_call 4; with_reducible refine (known_any _).mono ?_; rintro e w7 ⟨rfl, hB7⟩))
    go_wp2
    go_ret
    have e1 := hB1.size
    have e2 := hB2.size
    have e3 := hB3.size
    have e4 := hB4.size
    have e5 := hB5.size
    simp at e4
    exact ⟨rfl, hB1.trans ((hB2.mono (by omega)).trans ((hB3.mono (by omega)).trans ((((Below.refl w3.heap.size w3).drew).mono (by omega)).trans ((hB4.mono (by simp; omega)).trans ((hB5.mono (by omega)).trans (hB7.mono (by omega)))))))⟩
  · rw [if_neg hcap] at hA2
    subst hA2
    have ha3d : BytesAt w3.drew a l := ha3
    have b2d := b2.drew
    go_region_with (first
      | (go_at_call 7; with_reducible refine K1.out.mono ?_; rintro e w4 ⟨rfl, hB4⟩; have ha4 := BytesAt.below ha3d hB4 (Nat.le_refl _); have hr4 := BytesAt.below b2d hB4 (Nat.le_refl _))
      | (go_at_call 7; with_reducible refine (K2.out _ _ _ (by exact hr4)).mono ?_; rintro e w5 ⟨rfl, hB5⟩; have ha5 := BytesAt.below ha4 hB5 (Nat.le_refl _))
      | (go_at_call 8; with_reducible refine (refMore_any _ _ _ _ _ ha5 (by omega)).mono ?_; rintro e w6 ⟨rfl, rfl⟩)
      | (go_at_call 4; with_reducible refine (known_any _).mono ?_; rintro e w7 ⟨rfl, hB7⟩))
    go_wp2
    go_ret
    have e1 := hB1.size
    have e2 := hB2.size
    have e3 := hB3.size
    have e4 := hB4.size
    have e5 := hB5.size
    simp at e4
    exact ⟨rfl, hB1.trans ((hB2.mono (by omega)).trans ((hB3.mono (by omega)).trans ((((Below.refl w3.heap.size w3).drew).mono (by omega)).trans ((hB4.mono (by simp; omega)).trans ((hB5.mono (by omega)).trans (hB7.mono (by omega)))))))⟩
end Go.Proofs.Ytbbjfbllbokhaaa
namespace Go.Proofs.Ytbbjfbllbokhaaa.crcSums
open Go.ChangeShapes Go.WideShapes Go.ChangeAt Go.RowKit
open Go.ChangeMaps (open_string shut_string)
set_option linter.unusedVariables false

theorem own : ownKnob Try.prog.godebug = none := by kernel_rfl
theorem laidOut : laidOutB Try.prog = true := by kernel_rfl

/-- WHAT THE WALK IS TOLD OF A SLICE OF INTEGERS THAT CAME IN: it is nil; or it leads to a row of 'cap' cells, the numbers 'zs' (the first 'len' are its elements, the rest its spare room), each fitting its kind. -/
def IsRow (k : IntKind) (w : World) (a : Option Addr) (len cap : Nat) (zs : List Int) : Prop :=
  (a = none ∧ len = 0 ∧ cap = 0 ∧ zs = []) ∨
  ∃ x, a = some x ∧ len ≤ cap ∧ cap ≤ maxLen ∧ zs.length = cap ∧ (∀ i, i < zs.length → w.cell? (x.add i) = some (.int k (zs.getD i 0))) ∧ ∀ n ∈ zs, (Lit.int k n).wf = true

/-! ### STEP 1: THE WALK: the Go text returns true, AND WRITES NOTHING THAT WAS THERE: 'Below w.heap.size w w'' (Derived/Below.lean: '.refl', '.alloc', '.drew', '.setCell' at a new block, '.trans'). Open each 'IsRow' by 'rcases' AHEAD of 'go_enter'; part every test ahead of the walk. -/
theorem walk (a0 : Option Addr) (len0 cap0 : Nat) (z0 : List Int) (a1 : Int) (a2 : Int) (w : World) (w0 : IsRow .u8 w a0 len0 cap0 z0) (w1 : (Lit.int .u32 a1).wf = true) (w2 : (Lit.int .i64 a2).wf = true) :
    Calls Try.prog 3 #[.slice a0 len0 cap0, .int .u32 a1, .int .i64 a2] w fun e w' => e = .returned (.bool true) ∧ Below w.heap.size w w' := by
  obtain ⟨l, rfl, ha, hlc, hcm⟩ := isRow_bytes w0
  obtain ⟨C, rfl⟩ := wf_u32 w1
  have hcm' : cap0 ≤ 9223372036854775807 := by unfold maxLen at hcm; omega
  by_cases h : 3000 < l.length ∨ a2 < 0 ∨ (l.length : Int) < a2
  · exact sums_known a0 l.length cap0 _ a2 w (by omega) (by omega)
  · obtain ⟨k, rfl⟩ := Int.eq_ofNat_of_zero_le (show 0 ≤ a2 by omega)
    exact sums_main a0 l cap0 C k w ha (by omega) (by omega) hlc hcm'

/-! ### THE ROW's STEP: WRITTEN OUT: LEAVE IT -/
set_option maxRecDepth 100000 in
theorem lifted (os : Os) (started : os.Started) (H : Type) (enc : TypeId × Value → H) :
    ReturnsInHanded {} Try.checked os 3 .any (Rows.crcSumsSpec.pre6 enc Try.prog Try.f3 Rows.crcSumsRow.domain false) (Rows.crcSumsSpec.post enc Try.prog Try.f3 false true false false) := by
  refine returnsInHanded_of_change (C := Try.checked) own started (by kernel_rfl) Try.func3
    (ChangeSpec.witness6 (enc := enc) (C := Try.checked) false ⟨#[], #[.slice none 0 0, .int .u32 0, .int .i64 0], []⟩ 8 (by kernel_rfl) (by kernel_rfl) (by kernel_rfl) (by kernel_rfl)) ?_
  intro W base args ds gs before hval0 hW hcnd _
  have hval : ∀ (j : Nat) t v, Try.f3.params[j]? = some t → args[j]? = some v → Value.okWide Try.prog W .any base t v := hval0
  have hW' := hW
  obtain ⟨p, q, hA0, hV, rfl, hfz, hnd⟩ := hW
  have hA : DataW.TrodAll enc Try.prog W 0 (fun _ => true) true Try.f3.params.toList args.toList ds p := hA0
  rw [Try.params3] at hA hval
  obtain ⟨v0, vs0, d0, ds0, p0, q0, hargs, rfl, rfl, h0, r0⟩ := trodAll_cons hA
  obtain ⟨v1, vs1, d1, ds1, p1, q1, rfl, rfl, rfl, h1, r1⟩ := trodAll_cons r0
  obtain ⟨v2, vs2, d2, ds2, p2, q2, rfl, rfl, rfl, h2, r2⟩ := trodAll_cons r1
  obtain ⟨rfl, rfl, rfl⟩ := trodAll_nil r2
  obtain rfl : args = #[v0, v1, v2] := by cases args; simp_all
  obtain ⟨rfl, rfl⟩ := trodVars_none hV
  obtain ⟨a0, len0, cap0, rfl⟩ := okWide_slice Try.underlying22 (hval 0 22 v0 rfl rfl)
  have k0 := h0
  have lt0 : ∀ x ∈ p0, x.block < W.heap.size := by obtain ⟨m, hm⟩ := k0; exact DataW.trod_lt m _ _ _ hm
  obtain ⟨z0, w0⟩ : ∃ zs, IsRow .u8 W a0 len0 cap0 zs := by
    obtain ⟨fuel, hf⟩ := h0
    rcases open_ints Try.underlying22 Try.underlying5 (by kernel_rfl) hf with ⟨hcs, _⟩ | ⟨x, l, c, zs, hcs, _, hl, hm, hz, _, hcell, hwz⟩
    · simp [Value.cells] at hcs
      obtain ⟨rfl, rfl, rfl⟩ := hcs
      exact ⟨[], .inl ⟨rfl, rfl, rfl, rfl⟩⟩
    · simp [Value.cells] at hcs
      obtain ⟨rfl, rfl, rfl⟩ := hcs
      exact ⟨zs, .inr ⟨_, rfl, hl, hm, by simpa using hz, hcell, hwz⟩⟩
  obtain ⟨a1, rfl, rfl, rfl, w1⟩ := open_int Try.underlying23 (hval 1 23 v1 rfl rfl) h1
  obtain ⟨a2, rfl, rfl, rfl, w2⟩ := open_int Try.underlying3 (hval 2 3 v2 rfl rfl) h2
  clear hA0 hval0
  refine (walk a0 len0 cap0 z0 a1 a2 W w0 w1 w2).mono fun e W' ⟨he, bel⟩ => ?_
  subst he
  exact ⟨_, rfl, _, _, _, [], _, [], hW', trodAll_mk1 (shut_bool Try.underlying4 _), (trodAll_cons_mk (Below.trod laidOut (by kernel_rfl) (of_decide_eq_true (by kernel_rfl)) k0 bel lt0) (trodAll_cons_mk (shut_int Try.underlying23 w1) (trodAll_cons_mk (shut_int Try.underlying3 w2) trodAll_mk0))), rfl, bel.frame _, fun h => by cases h⟩

theorem over : Rows.crcSumsRow.holds Try.pinned (OpenSpec.ofChange Rows.crcSumsSpec) :=
  OpenClaim.holds_of_wide 3 Try.f3 rfl rfl rfl rfl rfl rfl rfl ⟨rfl, rfl, rfl, rfl, rfl⟩ rfl rfl rfl rfl rfl (by kernel_rfl) Try.func3 (by kernel_rfl)
    (of_decide_eq_true (by kernel_rfl)) (by unfold Func.isWrapper; first | (rw [if_pos (by decide +kernel)]; kernel_rfl) | (rw [if_neg (by decide +kernel)]; exact ⟨rfl, rfl⟩))
    (fun os started H enc _ => lifted os started H enc)

/-- ████ THE STATEMENT ████ -/
theorem proved : Rows.CrcSumsSaid := over
#print axioms proved
end Go.Proofs.Ytbbjfbllbokhaaa.crcSums
