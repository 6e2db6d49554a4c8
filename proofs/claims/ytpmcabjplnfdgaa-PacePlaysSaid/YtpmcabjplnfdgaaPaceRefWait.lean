/- The document's pace: Wait. Helper of the paces. -/
import Derived.Test.YtpmcabjplnfdgaaPaceRefB
import Derived.Test.YtpmcabjplnfdgaaPaceRate
namespace Go.Proofs.Ytpmcabjplnfdgaa
open Go.RowKit
set_option linter.unusedVariables false
set_option linter.unusedSimpArgs false
theorem tick_C (p : Pc) {k : Nat} (h : p.C ≤ k) : (p.tick k).C = k := by
  show max p.C (k : Int).toNat = k
  omega
theorem refTick_at (p : Pc) (k : Nat) (w : World) (h : p.Ok) (hk : p.C ≤ k) :
    Calls Try.prog 13 #[.agg #[.int .i64 p.S, .int .i64 p.B, .int .i64 p.N, .int .i64 p.d, .int .i64 p.C], .int .i64 (k : Int)] w fun e w' => e = .returned (.agg #[.int .i64 p.S, .int .i64 p.B, .int .i64 p.N, .int .i64 p.d, .int .i64 k]) ∧ Below w.heap.size w w' := by
  have := refTick_any p k w h
  rw [tick_C p hk] at this
  exact this
theorem refHorizon_on (p : Pc) (k : Nat) (w : World) (h : p.Ok) (hk : p.C ≤ k) (hk2 : k ≤ 9223372036854775807) :
    Calls Try.prog 17 #[.agg #[.int .i64 p.S, .int .i64 p.B, .int .i64 p.N, .int .i64 p.d, .int .i64 k]] w fun e w' => e = .returned (.int .i64 (p.hz k : Nat)) ∧ Below w.heap.size w w' := by
  have := refHorizon_any (p.tick k) w (h.tick (by omega))
  rw [tick_C p hk] at this
  exact this
theorem refWait_big (p : Pc) (t : Int) (w : World) (ht : 1099511627776 < t) :
    Calls Try.prog 16 #[.agg #[.int .i64 p.S, .int .i64 p.B, .int .i64 p.N, .int .i64 p.d, .int .i64 p.C], .int .i64 t] w fun e w' => WaitOut p t e ∧ Below w.heap.size w w' := by
  go_enter Try.func16, Try.ntmps16
  go_wp2
  go_ret2
  exact ⟨⟨_, _, rfl, waitIs_big p ht⟩, (Below.refl _ _).alloc (Nat.le_refl _) _⟩
theorem refWait_never (p : Pc) (t : Int) (w : World) (h : p.Ok) (ht : t ≤ 1099511627776) (hz : (p.hz 9223372036854775807 : Int) < t) :
    Calls Try.prog 16 #[.agg #[.int .i64 p.S, .int .i64 p.B, .int .i64 p.N, .int .i64 p.d, .int .i64 p.C], .int .i64 t] w fun e w' => WaitOut p t e ∧ Below w.heap.size w w' := by
  have KT := Lib.hid (fun w => refTick_at p 9223372036854775807 w h h.c)
  have KH := Lib.hid (fun w => refHorizon_on p 9223372036854775807 w h h.c (Nat.le_refl _))
  have h1 : ¬ 1099511627776 < t := by omega
  obtain ⟨Z, hZ⟩ : ∃ Z, p.hz 9223372036854775807 = Z := ⟨_, rfl⟩
  have HZ := Lib.hid hZ
  rw [hZ] at hz KH
  clear hZ
  go_enter Try.func16, Try.ntmps16
  go_wp2_with fail
  refine (KT.out _).mono ?_
  rintro e w1 ⟨rfl, hB1⟩
  go_wp2_with fail
  refine (KH.out _).mono ?_
  rintro e w2 ⟨rfl, hB2⟩
  go_wp2_with fail
  go_ret2
  exact ⟨⟨_, _, rfl, .inr ⟨rfl, rfl, .inr (by rw [HZ.out]; exact hz)⟩⟩, ((Below.refl _ _).alloc (Nat.le_refl _) _).trans ((hB1.mono (by simp)).trans (hB2.mono (by have := hB1.size; simp at this; omega)))⟩
def WtRel (p : Pc) (t : Int) (a b : Value) : Prop :=
  ∃ lo hi : Nat, a = .int .i64 lo ∧ b = .int .i64 hi ∧ p.C ≤ lo ∧ lo ≤ hi ∧ hi ≤ 9223372036854775807 ∧ t ≤ p.hz hi ∧ ∀ c, p.C ≤ c → c < lo → (p.hz c : Int) < t
set_option maxHeartbeats 800000 in
theorem refWait_on (p : Pc) (t : Int) (w : World) (h : p.Ok) (ht : t ≤ 1099511627776) (hz : t ≤ (p.hz 9223372036854775807 : Int)) :
    Calls Try.prog 16 #[.agg #[.int .i64 p.S, .int .i64 p.B, .int .i64 p.N, .int .i64 p.d, .int .i64 p.C], .int .i64 t] w fun e w' => WaitOut p t e ∧ Below w.heap.size w w' := by
  have KT := Lib.hid (fun w => refTick_at p 9223372036854775807 w h h.c)
  have KH := Lib.hid (fun w => refHorizon_on p 9223372036854775807 w h h.c (Nat.le_refl _))
  have h1 : ¬ 1099511627776 < t := by omega
  have hC := h.c
  obtain ⟨Z, hZ⟩ : ∃ Z, p.hz 9223372036854775807 = Z := ⟨_, rfl⟩
  have HZ := Lib.hid hz
  rw [hZ] at hz KH
  clear hZ
  go_enter Try.func16, Try.ntmps16
  go_wp2_with fail
  refine (KT.out _).mono ?_
  rintro e w1 ⟨rfl, hB1⟩
  go_wp2_with fail
  refine (KH.out _).mono ?_
  rintro e w2 ⟨rfl, hB2⟩
  have hB : Below (w.heap.size + 1) (w.alloc (.cells #[.int .i64 p.S, .int .i64 p.B, .int .i64 p.N, .int .i64 p.d, .int .i64 p.C] 33)) w2 := (hB1.mono (by simp)).trans (hB2.mono (by have := hB1.size; simp at this; omega))
  have hblk : Blk w2 w.heap.size 33 (rcells p) := (Blk.last w 33 (rcells p) rfl).below hB (by omega)
  have hBw : Below w.heap.size w w2 := ((Below.refl _ _).alloc (Nat.le_refl _) _).trans (hB.mono (by omega))
  have hcc := hblk.cell 4
  simp [rcells] at hcc
  clear hB1 hB2 hB
  have hdz : decide ((Z : Int) < t) = false := by simp; omega
  go_wp2_with fail
  go_loopw [6, 7] (fun a b wr => WtRel p t a b ∧ Blk wr w.heap.size 33 (rcells p) ∧ Below w.heap.size w wr) (fun a b _ => (intOf b - intOf a).toNat)
  case atStart => exact ⟨⟨p.C, 9223372036854775807, rfl, rfl, Nat.le_refl _, hC, Nat.le_refl _, HZ.out, fun c h1 h2 => absurd h1 (by omega)⟩, hblk, hBw⟩
  case round =>
    obtain ⟨⟨lo, hi, rfl, rfl, r1, r2, r3, r4, r5⟩, hblk, hBw⟩ := hrel
    have R4 := Lib.hid r4
    have R5 := Lib.hid r5
    clear r4 r5 hcc hz hdz
    by_cases hlt : lo < hi
    · obtain ⟨m, hm⟩ : ∃ m, m = (hi - lo) / 2 := ⟨_, rfl⟩
      have e1 : ((hi : Int) - (lo : Int)) / 2 = (m : Int) := by omega
      obtain ⟨k, hk⟩ : ∃ k, k = lo + m := ⟨_, rfl⟩
      have e2 : (lo : Int) + (m : Int) = (k : Int) := by omega
      have hk1 : lo ≤ k := by omega
      have hk2 : k < hi := by omega
      have KT2 := Lib.hid (fun w => refTick_at p k w h (by omega))
      have KH2 := Lib.hid (fun w => refHorizon_on p k w h (by omega) (by omega))
      obtain ⟨Y, hY⟩ : ∃ Y, p.hz k = Y := ⟨_, rfl⟩
      rw [hY] at KH2
      have HY := Lib.hid hY
      have HM := Lib.hid hm
      have HK := Lib.hid hk
      have c0 := hblk.cell 0
      have c1 := hblk.cell 1
      have c2 := hblk.cell 2
      have c3 := hblk.cell 3
      have c4 := hblk.cell 4
      simp [rcells] at c0 c1 c2 c3 c4
      clear hY hm hk KT KH
      by_cases hge : t ≤ (Y : Int)
      all_goals
        go_wp2_with fail
        refine (KT2.out _).mono ?_
        rintro e w3 ⟨rfl, hB1⟩
        go_wp2_with fail
        refine (KH2.out _).mono ?_
        rintro e w4 ⟨rfl, hB2⟩
        have hblk2 : Blk w4 w.heap.size 33 (rcells p) := (hblk.below hB1 hblk.lt).below hB2 (by have := hB1.size; have := hblk.lt; omega)
        have hBw2 : Below w.heap.size w w4 := hBw.trans ((hB1.mono (by have := hblk.lt; omega)).trans (hB2.mono (by have := hB1.size; have := hblk.lt; omega)))
        clear hB1 hB2 hblk hBw c0 c1 c2 c3 c4
        go_wp2_with fail
        go_roundw
        case rel =>
          first
            | exact ⟨⟨lo, k, rfl, rfl, r1, hk1, by omega, by rw [HY.out]; exact hge, R5.out⟩, hblk2, hBw2⟩
            | exact ⟨⟨k + 1, hi, by go_num, rfl, by omega, by omega, r3, R4.out, fun c g1 g2 => by
                have := Pc.hz_mono p (show c ≤ k by omega)
                have := HY.out
                omega⟩, hblk2, hBw2⟩
        case measure => simp [intOf]; omega
    · obtain rfl : lo = hi := by omega
      go_wp2
      go_ret2
      exact ⟨⟨_, _, rfl, .inl ⟨rfl, lo, rfl, r1, r3, R4.out, R5.out⟩⟩, hBw⟩
end Go.Proofs.Ytpmcabjplnfdgaa
