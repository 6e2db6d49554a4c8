/- Two steps that read the same are the same. Helper. -/
import Derived.Test.YtgijkgngldfdiaaVmArgs
namespace Go.Proofs.Ytgijkgngldfdiaa
open Go.RowKit
set_option linter.unusedVariables false
set_option linter.unusedSimpArgs false
set_option maxRecDepth 100000
set_option maxHeartbeats 1600000
theorem ints_at {w : World} {A : Option Addr} {L : List Int} (h : Rd w A (ints L)) {k : Nat} (hk : k < L.length) :
    ∃ b o, A = some ⟨b, o, none⟩ ∧ ∀ j, j < L.length → w.cell? ⟨b, o + j, none⟩ = some (.int .i64 (L.getD j 0)) := by
  obtain ⟨b, o, e, _, hc⟩ := h.get (k := k) (by rw [ints_length]; exact hk)
  exact ⟨b, o, e, fun j hj => hc j _ (by rw [ints_get, List.getD_eq_getElem?_getD, List.getElem?_eq_getElem hj]; rfl)⟩
theorem Rd.drewN {w : World} {A : Option Addr} {xs : List Value} (h : Rd w A xs) (n : Nat) : Rd (w.drewN n) A xs := h
theorem sameRecords_yes (w : World) (A B : Option Addr) (n c c' : Nat) (L : List Int) (hA : Rd w A (ints L)) (hB : Rd w B (ints L)) (hL : L.length = n * 6) (hn : n ≤ 4294967295) :
    Calls Try.prog 18 #[.slice A n c, .slice B n c'] w fun e w' => e = .returned (.bool true) ∧ ∃ q, w' = w.drewN q := by
  have HA := Lib.hid hA
  have HB := Lib.hid hB
  have HL := Lib.hid hL
  clear hA hB hL
  have g0 : ((n : Int) != (n : Int)) = false := by simp
  go_enter Try.func18, Try.ntmps18
  go_wp2_with fail
  go_loopw [5] (fun i wr => ∃ k : Nat, k ≤ n ∧ i = .int .i64 k ∧ Hid (∃ q, wr = w.drewN q)) (fun i _ => n - (intOf i).toNat)
  case atStart => exact ⟨0, Nat.zero_le _, rfl, Lib.hid ⟨0, rfl⟩⟩
  case round =>
    obtain ⟨k, hk, rfl, HI⟩ := hrel
    by_cases hlt : k < n
    · have g1 : (k : Int) < (n : Int) := by omega
      have hkl : k * 6 < L.length := by rw [HL.out]; omega
      obtain ⟨a, oa, rfl, ca⟩ := ints_at HA.out hkl
      obtain ⟨b, ob, rfl, cb⟩ := ints_at HB.out hkl
      obtain ⟨q, rfl⟩ := HI.out
      have a0 := ca (k * 6) (by rw [HL.out]; omega)
      have b0 := cb (k * 6) (by rw [HL.out]; omega)
      have a1 := ca (k * 6 + 1) (by rw [HL.out]; omega)
      have b1 := cb (k * 6 + 1) (by rw [HL.out]; omega)
      have a2 := ca (k * 6 + 2) (by rw [HL.out]; omega)
      have b2 := cb (k * 6 + 2) (by rw [HL.out]; omega)
      have a3 := ca (k * 6 + 3) (by rw [HL.out]; omega)
      have b3 := cb (k * 6 + 3) (by rw [HL.out]; omega)
      have a4 := ca (k * 6 + 4) (by rw [HL.out]; omega)
      have b4 := cb (k * 6 + 4) (by rw [HL.out]; omega)
      have a5 := ca (k * 6 + 5) (by rw [HL.out]; omega)
      have b5 := cb (k * 6 + 5) (by rw [HL.out]; omega)
      clear ca cb HI
      generalize L.getD (k * 6) 0 = x0 at *
      generalize L.getD (k * 6 + 1) 0 = x1 at *
      rw [← Nat.add_assoc] at a1 b1
      generalize L.getD (k * 6 + 2) 0 = x2 at *
      rw [← Nat.add_assoc] at a2 b2
      generalize L.getD (k * 6 + 3) 0 = x3 at *
      rw [← Nat.add_assoc] at a3 b3
      generalize L.getD (k * 6 + 4) 0 = x4 at *
      rw [← Nat.add_assoc] at a4 b4
      generalize L.getD (k * 6 + 5) 0 = x5 at *
      rw [← Nat.add_assoc] at a5 b5
      go_wp2_with fail
      go_quiet (fail)
      go_wp2_with fail
      go_roundw
      case rel => exact ⟨k + 1, by omega, by go_num, Lib.hid ⟨_, rfl⟩⟩
      case measure => simp [intOf]; omega
    · have g1 : ¬ (k : Int) < (n : Int) := by omega
      go_wp2_with fail
      go_ret
      exact ⟨rfl, HI.out⟩
theorem sameState_yes (w : World) (A B : Option Addr) (c c' : Nat) (L : List Int) (sent drawn : Int) (hA : Rd w A (ints L)) (hB : Rd w B (ints L)) (hn : L.length ≤ 4294967295) :
    Calls Try.prog 36 #[.agg #[.slice A L.length c, .int .i64 sent, .int .i64 drawn], .agg #[.slice B L.length c', .int .i64 sent, .int .i64 drawn]] w fun e w' => e = .returned (.bool true) ∧ Below w.heap.size w w' := by
  obtain ⟨w1, hw1⟩ : ∃ w1, (w.alloc (.cells #[.slice A L.length c, .int .i64 sent, .int .i64 drawn] 65)).alloc (.cells #[.slice B L.length c', .int .i64 sent, .int .i64 drawn] 65) = w1 := ⟨_, rfl⟩
  have n1 : Nw w w1 := by rw [← hw1]; exact ((Nw.refl w).alloc _).alloc _
  have hb1 : Blk w1 w.heap.size 65 #[.slice A L.length c, .int .i64 sent, .int .i64 drawn] := by rw [← hw1]; exact (Blk.last w _ _ rfl).alloc _
  have hb2 : Blk w1 (w.heap.size + 1) 65 #[.slice B L.length c', .int .i64 sent, .int .i64 drawn] := by rw [← hw1]; exact Blk.last _ _ _ (by simp)
  have HA := Lib.hid (hA.keep (w' := w1) fun p hp => Below.cell n1 hp)
  have HB := Lib.hid (hB.keep (w' := w1) fun p hp => Below.cell n1 hp)
  have p0 : w1.cell? ⟨w.heap.size, 0, none⟩ = some (.slice A L.length c) := hb1.cell 0
  have p1 : w1.cell? ⟨w.heap.size, 1, none⟩ = some (.int .i64 sent) := hb1.cell 1
  have p2 : w1.cell? ⟨w.heap.size, 2, none⟩ = some (.int .i64 drawn) := hb1.cell 2
  have r0 : w1.cell? ⟨w.heap.size + 1, 0, none⟩ = some (.slice B L.length c') := hb2.cell 0
  have r1 : w1.cell? ⟨w.heap.size + 1, 1, none⟩ = some (.int .i64 sent) := hb2.cell 1
  have r2 : w1.cell? ⟨w.heap.size + 1, 2, none⟩ = some (.int .i64 drawn) := hb2.cell 2
  have HW := Lib.hid hw1
  have N1 := Lib.hid n1
  have g1 : (sent != sent) = false := by simp
  have g2 : (drawn != drawn) = false := by simp
  have g3 : ((L.length : Int) != (L.length : Int)) = false := by simp
  clear hA hB hb1 hb2 hw1 n1
  go_enter Try.func36, Try.ntmps36
  go_upto_region 1 with (fail)
  rw [HW.out]
  go_wp2_with fail
  go_loopw [5] (fun i wr => ∃ k : Nat, k ≤ L.length ∧ i = .int .i64 k ∧ Hid (∃ q, wr = w1.drewN q)) (fun i _ => L.length - (intOf i).toNat)
  case atStart => exact ⟨0, Nat.zero_le _, rfl, Lib.hid ⟨0, rfl⟩⟩
  case round =>
    obtain ⟨k, hk, rfl, HI⟩ := hrel
    obtain ⟨q, rfl⟩ := HI.out
    by_cases hlt : k < L.length
    · have g4 : (k : Int) < (L.length : Int) := by omega
      obtain ⟨a, oa, rfl, ca⟩ := ints_at HA.out hlt
      obtain ⟨b, ob, rfl, cb⟩ := ints_at HB.out hlt
      have a0 := ca k hlt
      have b0 := cb k hlt
      clear ca cb HI
      generalize L.getD k 0 = x at *
      go_wp2_with fail
      go_quiet (fail)
      go_wp2_with fail
      go_roundw
      case rel => exact ⟨k + 1, by omega, by go_num, Lib.hid ⟨_, rfl⟩⟩
      case measure => simp [intOf]; omega
    · have g4 : ¬ (k : Int) < (L.length : Int) := by omega
      go_wp2_with fail
      go_ret
      exact ⟨rfl, Below.many N1.out _⟩
end Go.Proofs.Ytgijkgngldfdiaa
