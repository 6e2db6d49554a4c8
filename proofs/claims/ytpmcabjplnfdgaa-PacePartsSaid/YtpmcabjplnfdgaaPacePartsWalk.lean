/- PaceParts' walk. -/
import Derived.Test.YtpmcabjplnfdgaaPaceKnown
namespace Go.Proofs.Ytpmcabjplnfdgaa
open Go.RowKit
set_option linter.unusedVariables false
set_option linter.unusedSimpArgs false
theorem tick_tick (p : Pc) (a b : Int) (ha : 0 ≤ a) : (p.tick a).tick b = p.tick (max a b) := by
  unfold Pc.tick
  congr 1
  show max (max p.C a.toNat) b.toNat = max p.C (max a b).toNat
  omega
theorem tick_zero (p : Pc) : p.tick 0 = p := by
  unfold Pc.tick
  have : max p.C (0 : Int).toNat = p.C := by omega
  rw [this]
theorem Parts_many (a : Option Addr) (len c : Nat) (n d : Int) (w : World) (hl : 40 < len) (hl2 : len ≤ 9223372036854775807) :
    Calls Try.prog 3 #[.slice a len c, .int .i64 n, .int .i64 d] w fun e w' => e = .returned (.bool true) ∧ Below w.heap.size w w' := by
  have h1 : (40 : Int) < (len : Int) := by omega
  go_enter Try.func3, Try.ntmps3
  go_wp2_with fail
  refine (known_any w).mono ?_
  rintro e w1 ⟨rfl, hB⟩
  go_wp2_with fail
  go_ret
  exact ⟨rfl, hB⟩
set_option maxHeartbeats 800000 in
theorem Parts_walk (a : Option Addr) (zs : List Int) (c : Nat) (n d : Int) (w : World) (hl : zs.length ≤ 40) (ha : Rd w a (zs.map (Value.int .i64))) (hz : ∀ z ∈ zs, -9223372036854775808 ≤ z ∧ z ≤ 9223372036854775807) :
    Calls Try.prog 3 #[.slice a zs.length c, .int .i64 n, .int .i64 d] w fun e w' => e = .returned (.bool true) ∧ Below w.heap.size w w' := by
  have h1 : ¬ (40 : Int) < (zs.length : Int) := by omega
  have k0 := New_s w.heap.size w (Nat.le_refl _)
  go_enter Try.func3, Try.ntmps3
  go_wp2_with fail
  refine k0.mono ?_
  rintro e w1 ⟨rfl, h1, b1, s1⟩
  clear k0
  go_wp2_with fail
  refine (New_s w.heap.size w1 (by omega)).mono ?_
  rintro e w2 ⟨rfl, g2, b2, s2⟩
  have h2 := h1.new b2
  have bb2 : Below w.heap.size w w2 := b1.trans (b2.mono (by omega))
  have hne : w.heap.size ≠ w1.heap.size := by omega
  clear h1 b1 b2 s2 s1
  generalize w1.heap.size = B at *
  go_wp2_with fail
  refine (Rate_s _ _ _ n d w2 h2).mono ?_
  rintro e w3 ⟨rfl, h3, c3, b3⟩
  have g3 := g2.far c3 (fun e => hne e.symm)
  have bb3 := bb2.trans b3
  clear h2 c3 b3 g2 bb2
  go_wp2_with fail
  refine (Rate_s _ _ _ n d w3 g3).mono ?_
  rintro e w4 ⟨rfl, g4, c4, b4⟩
  have h4 := h3.far c4 hne
  have bb4 := bb3.trans b4
  clear h3 c4 b4 g3 bb3
  generalize Pc.zero.rate n d = p at *
  go_wp2_with fail
  go_loopw [9, 10] (fun m i wr => ∃ (k : Nat) (M : Int), k ≤ zs.length ∧ i = .int .i64 k ∧ m = .int .i64 M ∧ (0 ≤ M ∧ M ≤ 9223372036854775807) ∧ PCb wr w.heap.size w.heap.size (p.tick M) ∧ PCb wr w.heap.size B p ∧ Below w.heap.size w wr) (fun m i _ => zs.length - (intOf i).toNat)
  case atStart => exact ⟨0, 0, Nat.zero_le _, rfl, rfl, by omega, by rw [tick_zero]; exact h4, g4, bb4⟩
  case round =>
    obtain ⟨k, M, hk, rfl, rfl, hM, hp, hq, hb⟩ := hrel
    clear h4 g4 bb4
    by_cases hlt : k < zs.length
    · obtain ⟨b, off, rfl, hbl, hcc⟩ := ha.get (k := k) (by simpa using hlt)
      have hck := hcc k (.int .i64 zs[k]) (by simp [hlt])
      have hcw : wr.cell? ⟨b, off + k, none⟩ = some (.int .i64 zs[k]) := (hb.cell (p := ⟨b, off + k, none⟩) hbl).trans hck
      have hzk := hz zs[k] (List.getElem_mem hlt)
      have kt := Tick_s _ _ _ zs[k] wr hp hzk
      rw [tick_tick p M _ hM.1] at kt
      have KT := Lib.hid kt
      have HB := Lib.hid hb
      have HQ := Lib.hid hq
      clear kt hcc hck hp hq hb
      generalize zs[k] = z at *
      go_wp2_with fail
      refine KT.out.mono ?_
      rintro e w5 ⟨rfl, h5, c5, b5⟩
      have hcw5 : w5.cell? ⟨b, off + k, none⟩ = some (.int .i64 z) := (b5.cell (p := ⟨b, off + k, none⟩) hbl).trans hcw
      have q5 := HQ.out.far c5 (fun e => hne e.symm)
      have bb5 := HB.out.trans b5
      clear hcw c5 b5 HB HQ KT
      go_wp2_with fail
      go_roundw
      case rel => exact ⟨k + 1, max M z, by omega, by go_num, rfl, by omega, h5, q5, bb5⟩
      case measure => simp [intOf]; omega
    · obtain rfl : k = zs.length := by omega
      go_wp2_with fail
      refine (Tick_s _ _ _ M wr hq (by omega)).mono ?_
      rintro e w5 ⟨rfl, q5, c5, b5⟩
      have h5 := hp.far c5 hne
      have bb5 := hb.trans b5
      clear hp hq hb c5 b5
      go_wp2_with fail
      refine (Same_yes _ _ _ _ w5 h5.1 q5.1 (Alike.refl _) rfl).mono ?_
      rintro e w6 ⟨rfl, b6⟩
      have h6 := h5.new b6
      have q6 := q5.new b6
      have bb6 := bb5.trans (b6.mono h5.2.2)
      clear h5 q5 bb5 b6
      go_wp2_with fail
      refine (Same_yes _ _ _ _ w6 q6.1 h6.1 (Alike.refl _) rfl).mono ?_
      rintro e w7 ⟨rfl, b7⟩
      have h7 := h6.new b7
      have q7 := q6.new b7
      have bb7 := bb6.trans (b7.mono h6.2.2)
      clear h6 q6 bb6 b7
      go_wp2_with fail
      refine (Horizon_s _ _ _ _ w7 h7 rfl).mono ?_
      rintro e w8 ⟨rfl, h8, b8⟩
      have q8 := q7.new b8
      have bb8 := bb7.trans (b8.mono h7.2.2)
      clear h7 q7 bb7 b8
      go_wp2_with fail
      refine (Horizon_s _ _ _ _ w8 q8 rfl).mono ?_
      rintro e w9 ⟨rfl, q9, b9⟩
      have bb9 := bb8.trans (b9.mono h8.2.2)
      have hz9 := q9.2.2
      clear h8 q8 q9 bb8 b9
      go_wp2_with fail
      refine (known_any w9).mono ?_
      rintro e wa ⟨rfl, ba⟩
      go_wp2_with fail
      go_ret
      exact ⟨rfl, bb9.trans (ba.mono hz9)⟩
end Go.Proofs.Ytpmcabjplnfdgaa
