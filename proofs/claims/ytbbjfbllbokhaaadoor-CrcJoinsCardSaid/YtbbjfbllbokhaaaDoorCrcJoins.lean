/- CrcJoins: for every input the law returns true, and what was handed in reads as it did; the library's table reads as its text lays it (the card ties it). -/
import Derived.Test.YtbbjfbllbokhaaaDoorCards
import Derived.Test.YtbbjfbllbokhaaaDoorTie
import Derived.ProofKit
import Derived.OpenShut
import Derived.ShutString
import Derived.ChangeOld
import Derived.Deep.DeepHandedRow
import Derived.Lib.LaidTab
import Derived.Test.YtbbjfbllbokhaaaDoorCrcMat
import Derived.Deep.OwnRows
import Derived.Deep.RegionHeld3
namespace Go.Proofs.YtbbjfbllbokhaaaDoor
open Go.RowKit
theorem joins_known (a b : Option Addr) (l k c d : Nat) (n : Int) (w : World) (hl : l ≤ 9223372036854775807) (hk : k ≤ 9223372036854775807)
    (h : 2000 < l ∨ (l ≤ 2000 ∧ 2000 < k) ∨ (l ≤ 2000 ∧ k ≤ 2000 ∧ n < -5) ∨ (l ≤ 2000 ∧ k ≤ 2000 ∧ -5 ≤ n ∧ 3000 < n)) :
    Calls Tryd.prog 4 #[.slice a l c, .slice b k d, .int .i64 n] w fun e w' => e = .returned (.bool true) ∧ Below w.heap.size w w' := by
  have f1 : 2000 < l → (2000 : Int) < (l : Int) := fun h => by omega
  have f2 : l ≤ 2000 → ¬ (2000 : Int) < (l : Int) := fun h => by omega
  have f3 : 2000 < k → (2000 : Int) < (k : Int) := fun h => by omega
  have f4 : k ≤ 2000 → ¬ (2000 : Int) < (k : Int) := fun h => by omega
  rcases h with h | ⟨h1, h⟩ | ⟨h1, h2, h⟩ | ⟨h1, h2, h3, h⟩
  · have g := f1 h
    clear f1 f2 f3 f4
    go_enter Tryd.func4, Tryd.ntmps4
    go_wp2_with (go_at_call 5; refine (known_any _).mono ?_; rintro e w' ⟨rfl, hB⟩)
    go_ret
    exact ⟨rfl, hB⟩
  · have g := f2 h1
    have g2 := f3 h
    clear f1 f2 f3 f4
    go_enter Tryd.func4, Tryd.ntmps4
    go_wp2_with (go_at_call 5; refine (known_any _).mono ?_; rintro e w' ⟨rfl, hB⟩)
    go_ret
    exact ⟨rfl, hB⟩
  · have g := f2 h1
    have g2 := f4 h2
    clear f1 f2 f3 f4
    go_enter Tryd.func4, Tryd.ntmps4
    go_wp2_with (go_at_call 5; refine (known_any _).mono ?_; rintro e w' ⟨rfl, hB⟩)
    go_ret
    exact ⟨rfl, hB⟩
  · have g := f2 h1
    have g2 := f4 h2
    clear f1 f2 f3 f4
    go_enter Tryd.func4, Tryd.ntmps4
    go_wp2_with (go_at_call 5; refine (known_any _).mono ?_; rintro e w' ⟨rfl, hB⟩)
    go_ret
    exact ⟨rfl, hB⟩
theorem crc_join (A : BitVec 32) (b : List UInt8) : CrcP.shift A (8 * b.length) ^^^ crcMore 0#32 b = crcMore A b := by
  have := CrcP.join A (b.map UInt8.toNat)
  rw [List.length_map] at this
  exact this
theorem crc_zeros (A : BitVec 32) (n : Nat) : ~~~ CrcP.shift (~~~ A) (8 * n) = crcMore A (List.replicate n 0) := by
  unfold crcMore CrcP.more
  rw [List.map_replicate, show UInt8.toNat 0 = 0 from rfl, CrcP.run_zeros]
theorem bytesAt_zeros (w : World) (n : Nat) (t : TypeId) : BytesAt (w.alloc (.cells (madeCells #[.int .u8 0] n) t)) (some ⟨w.heap.size, 0, none⟩) (List.replicate n 0) := by
  refine .inr ⟨_, _, rfl, fun j u hu => ?_⟩
  rw [cell_of_row _ _ _ _ t (0, 0) (heap_alloc_last w _)]
  simp [bcells, List.getElem?_replicate] at hu
  obtain ⟨hj, rfl⟩ := hu
  simp [madeCells, hj, Nat.mod_one]
theorem refMore_zeros (A : BitVec 32) (ad : Option Addr) (n cap : Nat) (w : World) (h : BytesAt w ad (List.replicate n 0)) (hn : n ≤ 9223372036854775807) :
    Calls Tryd.prog 10 #[.int .u32 A.toNat, .slice ad n cap] w fun e w' => e = .returned (.int .u32 (crcMore A (List.replicate n 0)).toNat) ∧ w = w' := by
  have := refMore_any A ad (List.replicate n 0) cap w h (by simpa using hn)
  rwa [List.length_replicate] at this
/-- what stays while the last test is reckoned -/
def Inv (w0 : World) (a : Option Addr) (l : List UInt8) (w : World) : Prop := BytesAt w a l ∧ TabAt w ∧ Below w0.heap.size w0 w
theorem Inv.step {w0 w w' : World} {a : Option Addr} {l : List UInt8} (h : Inv w0 a l w) (hB : Below w.heap.size w w') : Inv w0 a l w' :=
  ⟨h.1.below hB (Nat.le_refl _), h.2.1.below hB h.2.1.pos, h.2.2.trans (hB.mono h.2.2.size)⟩
theorem Inv.bytes {w0 w : World} {a : Option Addr} {l : List UInt8} (h : Inv w0 a l w) : BytesAt w a l := h.1
theorem Inv.tab {w0 w : World} {a : Option Addr} {l : List UInt8} (h : Inv w0 a l w) : TabAt w := h.2.1
theorem Inv.alloc {w0 w : World} {a : Option Addr} {l : List UInt8} (h : Inv w0 a l w) (o : Obj) : Inv w0 a l (w.alloc o) := h.step ((Below.refl _ _).alloc (Nat.le_refl _) _)
set_option maxHeartbeats 800000 in
theorem joins_pos (a b : Option Addr) (la lb : List UInt8) (c d n : Nat) (w : World) (hT : TabAt w) (ha : BytesAt w a la) (hb : BytesAt w b lb) (h1 : la.length ≤ 2000) (h2 : lb.length ≤ 2000) (h3 : n ≤ 3000) :
    Calls Tryd.prog 4 #[.slice a la.length c, .slice b lb.length d, .int .i64 n] w fun e w' => e = .returned (.bool true) ∧ Below w.heap.size w w' := by
  have g1 : ¬ (2000 : Int) < (la.length : Int) := by omega
  have g2 : ¬ (2000 : Int) < (lb.length : Int) := by omega
  have g3 : ¬ (n : Int) < -5 := by omega
  have g4 : ¬ (3000 : Int) < (n : Int) := by omega
  have hj := crc_join (crcMore 0#32 la) lb
  have HJ := Lib.hid hj
  clear hj
  go_enter Tryd.func4, Tryd.ntmps4
  go_wp2_with fail
  refine (Sum_any a la c _ ha (by omega)).mono ?_
  rintro e w1 ⟨rfl, hB1⟩
  have ha1 := ha.below hB1 (Nat.le_refl _)
  have hb1 := hb.below hB1 (Nat.le_refl _)
  have hT1 := hT.below hB1 hT.pos
  go_wp2_with fail
  refine (Sum_any b lb d _ hb1 (by omega)).mono ?_
  rintro e w2 ⟨rfl, hB2⟩
  have ha2 := ha1.below hB2 (Nat.le_refl _)
  have hb2 := hb1.below hB2 (Nat.le_refl _)
  have hT2 := hT1.below hB2 hT1.pos
  go_wp2_with fail
  refine (Join_any _ _ (lb.length : Int) (by omega) (by omega) _ hT2).mono ?_
  rintro e w3 ⟨rfl, hB3⟩
  rw [Int.toNat_natCast, HJ.out]
  have ha3 := ha2.below hB3 (Nat.le_refl _)
  have hb3 := hb2.below hB3 (Nat.le_refl _)
  have hT3 := hT2.below hB3 hT2.pos
  go_wp2_with fail
  refine (refSum_any a la c _ ha3 (by omega)).mono ?_
  rintro e w' ⟨rfl, rfl⟩
  go_wp2_with fail
  refine (refMore_any _ b lb d _ hb3 (by omega)).mono ?_
  rintro e w' ⟨rfl, rfl⟩
  have e1 := hB1.size
  have e2 := hB2.size
  have hBw : Below w.heap.size w w3 := hB1.trans ((hB2.mono e1).trans (hB3.mono (by omega)))
  clear hB1 hB2 hB3 ha1 ha2 hb1 hb2 hb3 hT1 hT2 e1 e2 ha hb hT
  have hmk := run_make_row' (P := Tryd.prog) 27 5 (.int .u8 0) 1 Tryd.underlying27 (by kernel_rfl) rfl .i64 .i64 n (by omega) (by omega)
  have hz := crc_zeros (crcMore 0#32 la) n
  have HZ := Lib.hid hz
  clear hz
  have i0 : Inv w3 a la w3.drew := ⟨ha3, hT3, (Below.refl _ _).drew⟩
  go_wp2_with fail
  go_region_held3 (fun w' => Inv w3 a la w') (first | exact i0 | assumption | exact Inv.alloc (by assumption) _) (first
    | (go_at_call 11; refine (refSum_any a la c _ (Inv.bytes (by assumption)) (by omega)).mono ?_; rintro e w' ⟨rfl, rfl⟩)
    | (go_at_call 6; refine (Noughts_any _ (n : Int) (by omega) (by omega) _ (Inv.tab (by assumption))).mono ?_; rintro e w6 ⟨rfl, hB6⟩; rw [Int.toNat_natCast, HZ.out]; have i6 := Inv.step (by assumption) hB6)
    | (go_at_call 10; refine (refMore_zeros _ _ n _ _ (by first | exact bytesAt_zeros _ _ _ | exact (bytesAt_zeros _ _ _).below hB6 (Nat.le_refl _) | exact (bytesAt_zeros _ _ _).drew.below hB6 (Nat.le_refl _)) (by omega)).mono ?_; rintro e w' ⟨rfl, rfl⟩)
    | (go_at_call 5; refine (known_any _).mono ?_; rintro e w7 ⟨rfl, hB7⟩; have i7 := Inv.step (by assumption) hB7))
  all_goals
    go_wp2
    go_ret
    exact ⟨rfl, hBw.trans (i7.2.2.mono hBw.size)⟩
set_option maxHeartbeats 800000 in
theorem joins_neg (a b : Option Addr) (la lb : List UInt8) (c d : Nat) (n : Int) (w : World) (hT : TabAt w) (ha : BytesAt w a la) (hb : BytesAt w b lb) (h1 : la.length ≤ 2000) (h2 : lb.length ≤ 2000) (h3 : -5 ≤ n) (h4 : n < 0) :
    Calls Tryd.prog 4 #[.slice a la.length c, .slice b lb.length d, .int .i64 n] w fun e w' => e = .returned (.bool true) ∧ Below w.heap.size w w' := by
  have g1 : ¬ (2000 : Int) < (la.length : Int) := by omega
  have g2 : ¬ (2000 : Int) < (lb.length : Int) := by omega
  have g3 : ¬ n < -5 := by omega
  have g4 : ¬ (3000 : Int) < n := by omega
  have hj := crc_join (crcMore 0#32 la) lb
  have HJ := Lib.hid hj
  clear hj
  go_enter Tryd.func4, Tryd.ntmps4
  go_wp2_with fail
  refine (Sum_any a la c _ ha (by omega)).mono ?_
  rintro e w1 ⟨rfl, hB1⟩
  have ha1 := ha.below hB1 (Nat.le_refl _)
  have hb1 := hb.below hB1 (Nat.le_refl _)
  have hT1 := hT.below hB1 hT.pos
  go_wp2_with fail
  refine (Sum_any b lb d _ hb1 (by omega)).mono ?_
  rintro e w2 ⟨rfl, hB2⟩
  have ha2 := ha1.below hB2 (Nat.le_refl _)
  have hb2 := hb1.below hB2 (Nat.le_refl _)
  have hT2 := hT1.below hB2 hT1.pos
  go_wp2_with fail
  refine (Join_any _ _ (lb.length : Int) (by omega) (by omega) _ hT2).mono ?_
  rintro e w3 ⟨rfl, hB3⟩
  rw [Int.toNat_natCast, HJ.out]
  have ha3 := ha2.below hB3 (Nat.le_refl _)
  have hb3 := hb2.below hB3 (Nat.le_refl _)
  have hT3 := hT2.below hB3 hT2.pos
  go_wp2_with fail
  refine (refSum_any a la c _ ha3 (by omega)).mono ?_
  rintro e w' ⟨rfl, rfl⟩
  go_wp2_with fail
  refine (refMore_any _ b lb d _ hb3 (by omega)).mono ?_
  rintro e w' ⟨rfl, rfl⟩
  have e1 := hB1.size
  have e2 := hB2.size
  have hBw : Below w.heap.size w w3 := hB1.trans ((hB2.mono e1).trans (hB3.mono (by omega)))
  clear hB1 hB2 hB3 ha1 ha2 hb1 hb2 hb3 hT1 hT2 e1 e2 ha hb hT
  have hmk := run_make_row' (P := Tryd.prog) 27 5 (.int .u8 0) 1 Tryd.underlying27 (by kernel_rfl) rfl .i64 .i64 0 (by omega) (by omega)
  rw [show ((0 : Nat) : Int) = 0 from rfl] at hmk
  have hz := crc_zeros (crcMore 0#32 la) 0
  have HZ := Lib.hid hz
  clear hz
  have i0 : Inv w3 a la w3.drew := ⟨ha3, hT3, (Below.refl _ _).drew⟩
  go_wp2_with fail
  go_region_held3 (fun w' => Inv w3 a la w') (first | exact i0 | assumption | exact Inv.alloc (by assumption) _) (first
    | (go_at_call 11; refine (refSum_any a la c _ (Inv.bytes (by assumption)) (by omega)).mono ?_; rintro e w' ⟨rfl, rfl⟩)
    | (go_at_call 6; refine (Noughts_any _ n (by omega) (by omega) _ (Inv.tab (by assumption))).mono ?_; rintro e w6 ⟨rfl, hB6⟩; rw [show n.toNat = 0 from by omega, HZ.out]; have i6 := Inv.step (by assumption) hB6)
    | (go_at_call 10; refine (refMore_zeros _ _ 0 _ _ (by first | exact bytesAt_zeros _ _ _ | exact (bytesAt_zeros _ _ _).below hB6 (Nat.le_refl _) | exact (bytesAt_zeros _ _ _).drew.below hB6 (Nat.le_refl _)) (by omega)).mono ?_; rintro e w' ⟨rfl, rfl⟩)
    | (go_at_call 5; refine (known_any _).mono ?_; rintro e w7 ⟨rfl, hB7⟩; have i7 := Inv.step (by assumption) hB7))
  all_goals
    go_wp2
    go_ret
    exact ⟨rfl, hBw.trans (i7.2.2.mono hBw.size)⟩
end Go.Proofs.YtbbjfbllbokhaaaDoor

namespace Go.Proofs.YtbbjfbllbokhaaaDoor.crcJoins
open Go.ChangeShapes Go.WideShapes Go.ChangeAt Go.RowKit
theorem own : ownKnob Tryd.prog.godebug = none := by kernel_rfl
theorem laidOut : laidOutB Tryd.prog = true := by kernel_rfl
theorem gTab : Tryd.prog.globalNamed "math/bits.deBruijn32tab" = some 0 := by kernel_rfl
theorem gTabType : (Tryd.prog.globals[0]?).map (·.type) = some 42 := by kernel_rfl
theorem cellsTab : Tryd.prog.cellsOf 42 = 32 := by kernel_rfl
theorem cellsByte : Tryd.prog.cellsOf 5 = 1 := by kernel_rfl
theorem table {W : World} (h : laidMetH Tryd.prog Rows.crcJoinsRow.laid W) : Lib.TabIs Tryd.prog W "math/bits.deBruijn32tab" .u8 [0, 1, 28, 2, 29, 14, 24, 3, 30, 22, 20, 15, 25, 17, 4, 8, 31, 27, 13, 23, 21, 19, 16, 7, 26, 12, 18, 6, 11, 5, 10, 9] :=
  Lib.tabIs_of_head (rest := []) gTab gTabType Tryd.underlying42 Tryd.underlying5 cellsByte cellsTab h
theorem tab_at {W : World} (h : laidMetH Tryd.prog Rows.crcJoinsRow.laid W) : TabAt W := fun j hj => by
  rw [(table h).cell gTab j hj]
  have : ∀ j, j < 32 → ([0, 1, 28, 2, 29, 14, 24, 3, 30, 22, 20, 15, 25, 17, 4, 8, 31, 27, 13, 23, 21, 19, 16, 7, 26, 12, 18, 6, 11, 5, 10, 9] : List Int).getD j 0 = ((Lib.deBruijn32tab.getD j 0 : Nat) : Int) := by decide
  rw [this j hj]
theorem contract (H : Type) (enc : TypeId × Value → H) (W : World) (base : Nat) (args : Array Value) (ds gs : List (DataW H)) (before : List MemPlace)
    (hval : ∀ (j : Nat) t v, Tryd.f4.params[j]? = some t → args[j]? = some v → Value.okWide Tryd.prog W .any base t v)
    (hW : DataW.Whole enc Tryd.prog Tryd.f4.params.toList Rows.crcJoinsSpec.vars false W args.toList ds gs before) (hL : laidMetH Tryd.prog Rows.crcJoinsRow.laid W) :
    Calls Tryd.prog 4 args W fun e W' => ∃ v, e = .returned v ∧ Rows.crcJoinsSpec.post enc Tryd.prog Tryd.f4 false true false false W args v W' := by
  have hW' := hW
  obtain ⟨p, q, hA0, hV, rfl, hfz, hnd⟩ := hW
  have hA : DataW.TrodAll enc Tryd.prog W 0 (fun _ => true) true Tryd.f4.params.toList args.toList ds p := hA0
  rw [Tryd.params4] at hA hval
  obtain ⟨v0, vs0, d0, ds0, p0, q0, hargs, rfl, rfl, h0, r0⟩ := trodAll_cons hA
  obtain ⟨v1, vs1, d1, ds1, p1, q1, rfl, rfl, rfl, h1, r1⟩ := trodAll_cons r0
  obtain ⟨v2, vs2, d2, ds2, p2, q2, rfl, rfl, rfl, h2, r2⟩ := trodAll_cons r1
  obtain ⟨rfl, rfl, rfl⟩ := trodAll_nil r2
  obtain rfl : args = #[v0, v1, v2] := by cases args; simp_all
  obtain ⟨rfl, rfl⟩ := trodVars_none hV
  obtain ⟨a0, len0, cap0, rfl⟩ := okWide_slice Tryd.underlying27 (hval 0 27 v0 rfl rfl)
  have k0 := h0
  have lt0 : ∀ x ∈ p0, x.block < W.heap.size := by obtain ⟨m, hm⟩ := k0; exact DataW.trod_lt m _ _ _ hm
  obtain ⟨l0, rfl, b0⟩ : ∃ l : List UInt8, len0 = l.length ∧ BytesAt W a0 l ∧ l.length ≤ maxLen := by
    obtain ⟨fuel, hf⟩ := h0
    rcases open_ints Tryd.underlying27 Tryd.underlying5 (by kernel_rfl) hf with ⟨hcs, _⟩ | ⟨x, l, c, zs, hcs, _, hl, hm, hz, _, hcell, hwz⟩
    · simp [Value.cells] at hcs
      obtain ⟨rfl, rfl, rfl⟩ := hcs
      exact ⟨[], rfl, .inl rfl, Nat.zero_le _⟩
    · simp [Value.cells] at hcs
      obtain ⟨rfl, rfl, rfl⟩ := hcs
      obtain ⟨l, h1, h2, h3, h4⟩ := isRow_bytes (.inr ⟨_, rfl, hl, hm, by simpa using hz, hcell, hwz⟩)
      exact ⟨l, h1.symm, h2, by omega⟩
  obtain ⟨a1, len1, cap1, rfl⟩ := okWide_slice Tryd.underlying27 (hval 1 27 v1 rfl rfl)
  have k1 := h1
  have lt1 : ∀ x ∈ p1, x.block < W.heap.size := by obtain ⟨m, hm⟩ := k1; exact DataW.trod_lt m _ _ _ hm
  obtain ⟨l1, rfl, b1⟩ : ∃ l : List UInt8, len1 = l.length ∧ BytesAt W a1 l ∧ l.length ≤ maxLen := by
    obtain ⟨fuel, hf⟩ := h1
    rcases open_ints Tryd.underlying27 Tryd.underlying5 (by kernel_rfl) hf with ⟨hcs, _⟩ | ⟨x, l, c, zs, hcs, _, hl, hm, hz, _, hcell, hwz⟩
    · simp [Value.cells] at hcs
      obtain ⟨rfl, rfl, rfl⟩ := hcs
      exact ⟨[], rfl, .inl rfl, Nat.zero_le _⟩
    · simp [Value.cells] at hcs
      obtain ⟨rfl, rfl, rfl⟩ := hcs
      obtain ⟨l, h1, h2, h3, h4⟩ := isRow_bytes (.inr ⟨_, rfl, hl, hm, by simpa using hz, hcell, hwz⟩)
      exact ⟨l, h1.symm, h2, by omega⟩
  obtain ⟨n, rfl, rfl, rfl, w2⟩ := open_int Tryd.underlying3 (hval 2 3 v2 rfl rfl) h2
  clear hA0
  have hT := tab_at hL
  have walk : Calls Tryd.prog 4 #[.slice a0 l0.length cap0, .slice a1 l1.length cap1, .int .i64 n] W fun e w' => e = .returned (.bool true) ∧ Below W.heap.size W w' := by
    obtain ⟨ba0, m0⟩ := b0
    obtain ⟨ba1, m1⟩ := b1
    unfold maxLen at m0 m1
    by_cases h : l0.length ≤ 2000 ∧ l1.length ≤ 2000 ∧ -5 ≤ n ∧ n ≤ 3000
    · obtain ⟨g1, g2, g3, g4⟩ := h
      by_cases hn : n < 0
      · exact joins_neg a0 a1 l0 l1 cap0 cap1 n W hT ba0 ba1 g1 g2 g3 hn
      · obtain ⟨k, rfl⟩ := Int.eq_ofNat_of_zero_le (show 0 ≤ n by omega)
        exact joins_pos a0 a1 l0 l1 cap0 cap1 k W hT ba0 ba1 g1 g2 (by omega)
    · exact joins_known a0 a1 l0.length l1.length cap0 cap1 n W (by omega) (by omega) (by omega)
  refine walk.mono fun e W' ⟨he, bel⟩ => ?_
  subst he
  exact ⟨_, rfl, _, _, _, [], _, [], hW', trodAll_mk1 (shut_bool Tryd.underlying4 _), (trodAll_cons_mk (Below.trod laidOut (by kernel_rfl) (of_decide_eq_true (by kernel_rfl)) k0 bel lt0) (trodAll_cons_mk (Below.trod laidOut (by kernel_rfl) (of_decide_eq_true (by kernel_rfl)) k1 bel lt1) (trodAll_cons_mk (shut_int Tryd.underlying3 w2) trodAll_mk0))), rfl, bel.frame _, fun h => by cases h⟩

/-- A world for the witness: the settled one, the table holding what its initialiser lays. -/
noncomputable def laidWorld (os : Os) : World :=
  { World.holding Tryd.prog os ⟨#[], #[], []⟩ with heap := (World.holding Tryd.prog os ⟨#[], #[], []⟩).heap.modify 0 fun
      | .cells _ t frozen => .cells #[.int .u8 0, .int .u8 1, .int .u8 28, .int .u8 2, .int .u8 29, .int .u8 14, .int .u8 24, .int .u8 3, .int .u8 30, .int .u8 22, .int .u8 20, .int .u8 15, .int .u8 25, .int .u8 17, .int .u8 4, .int .u8 8, .int .u8 31, .int .u8 27, .int .u8 13, .int .u8 23, .int .u8 21, .int .u8 19, .int .u8 16, .int .u8 7, .int .u8 26, .int .u8 12, .int .u8 18, .int .u8 6, .int .u8 11, .int .u8 5, .int .u8 10, .int .u8 9] t frozen
      | o => o }
theorem laid_met (os : Os) : laidMet Tryd.prog Rows.crcJoinsRow.laid ((laidWorld os).forCall (fun _ _ => 0) ⟨#[], #[.slice none 0 0, .slice none 0 0, .int .i64 0], []⟩).memory :=
  laidMet_of_run' 8 (by kernel_rfl) (by kernel_rfl)
theorem reads (os : Os) {H : Type} (enc : TypeId × Value → H) : ∃ places, DataW.whole enc Tryd.prog ((laidWorld os).forCall (fun _ _ => 0) ⟨#[], #[.slice none 0 0, .slice none 0 0, .int .i64 0], []⟩).memory Tryd.f4.params.toList Rows.crcJoinsSpec.vars false (#[.slice none 0 0, .slice none 0 0, .int .i64 0] : Array Value).toList 8 = some ([.nil, .nil, .lit (.int .i64 0)], [], places) :=
  ⟨[], by kernel_rfl⟩
set_option maxRecDepth 100000 in
theorem lifted (os : Os) (started : os.Started) (H : Type) (enc : TypeId × Value → H) (F : Stop.Interp) :
    ReturnsInHanded {} Tryd.checked os 4 .any ((OpenSpec.ofChange Rows.crcJoinsSpec).preRow enc Tryd.prog Tryd.f4 Rows.crcJoinsRow.domain false Rows.crcJoinsRow.laid) (((OpenSpec.ofChange Rows.crcJoinsSpec).at F).post enc Tryd.prog Tryd.f4 false true false false) := by
  obtain ⟨places, hx⟩ := reads os enc
  refine returnsInHanded_of_row (C := Tryd.checked) (s := OpenSpec.ofChange Rows.crcJoinsSpec) own started (by kernel_rfl) Tryd.func4
    (witness_row_at (enc := enc) (C := Tryd.checked) false (laidWorld os) #[.slice none 0 0, .slice none 0 0, .int .i64 0] rfl (by kernel_rfl) (by kernel_rfl) (by kernel_rfl)
      (OpenSpec.preRow_of_cond 8 hx (by kernel_rfl) (fun k hk => by cases hk) (by kernel_rfl) (laid_met os))) ?_
  intro W base args ds gs before hval hW _ _ _ hL _ _
  exact contract H enc W base args ds gs before hval hW hL
theorem said : Rows.CrcJoinsSaid :=
  OpenClaim.holds_of_cond 4 Tryd.f4 rfl rfl rfl rfl rfl rfl rfl ⟨rfl, rfl, rfl, rfl, rfl⟩ rfl rfl rfl rfl rfl (by kernel_rfl) Tryd.func4 (by kernel_rfl)
    (of_decide_eq_true (by kernel_rfl)) (by unfold Func.isWrapper; first | (rw [if_pos (by decide +kernel)]; kernel_rfl) | (rw [if_neg (by decide +kernel)]; exact ⟨rfl, rfl⟩))
    (fun os started H enc _ F => by rw [OpenClaim.pre_eq_preRow]; exact lifted os started H enc F)
theorem plain (f : FuncId) (fn : Func) (hf : Tryd.pinned.checked.prog.funcNamed "riffle/rifflelaw01.CrcJoins" = some f) (hfn : Tryd.pinned.checked.prog.funcs[f]? = some fn) :
    false = Tryd.pinned.checked.prog.looks [] ∧ ∀ (j : Nat) t, fn.params[j]? = some t → Tryd.pinned.checked.prog.wantsStandIn t = false := by
  obtain rfl : f = 4 := Option.some.inj ((show Tryd.prog.funcNamed "riffle/rifflelaw01.CrcJoins" = some 4 by kernel_rfl).symm.trans hf) |>.symm
  obtain rfl : fn = Tryd.f4 := (Option.some.inj (Tryd.func4.symm.trans hfn)).symm
  refine ⟨by kernel_rfl, fun j t ht => ?_⟩
  have all : ∀ t ∈ Tryd.f4.params.toList, Tryd.prog.wantsStandIn t = false := by
    rw [Tryd.params4]
    intro t ht
    simp at ht
    rcases ht with rfl | rfl | rfl <;> kernel_rfl
  exact all t (by simpa using Array.mem_of_getElem? ht)
theorem card : Rows.CrcJoinsCardSaid :=
  Claim7.holds_tied_plain_at .later [] _ _ _ _ said (fun _ h => by cases h) (by kernel_rfl) (fun _ h => by cases h) crcJoins_row_tie rfl ⟨rfl, rfl⟩ (by kernel_rfl) rfl plain (by kernel_rfl)
#print axioms card
end Go.Proofs.YtbbjfbllbokhaaaDoor.crcJoins
