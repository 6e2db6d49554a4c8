/- Messages: over goes over a message's parts. Helper. -/
import Derived.Test.YtnbcjjgilndlaaaRdPen
import Derived.Defers
namespace Go.Proofs.Ytnbcjjgilndlaaa
open Go.RowKit
set_option linter.unusedVariables false
set_option linter.unusedSimpArgs false
set_option maxRecDepth 100000
set_option maxHeartbeats 1600000 in
theorem askId_rd (w0 w : World) (P M : Nat) (A : Option Addr) (c : Nat) (bs : List UInt8) (mc : Array Value) (v : Int) (h : RdSt w0 w P M 33 A c bs mc) (ho : mc[1]? = some (.int .u32 v)) (hk : 4 ≤ bs.length) :
    Calls Try.prog 48 #[.pointer (some ⟨P, 0, none⟩), .pointer (some ⟨M, 0, none⟩)] w fun e w' => e = .returned (.tuple #[]) ∧ RdSt w0 w' P M 33 (cutA A c 4) (c - 4) (bs.drop 4) (mc.setIfInBounds 1 (.int .u32 (beN (bs.take 4) : Int))) := by
  have K := Lib.hid (word_rd w0 w P M 33 A c bs mc 1 v h ho hk)
  clear h ho hk
  go_enter Try.func48, Try.ntmps48
  go_wp2_with fail
  refine K.out.mono ?_
  rintro e w2 ⟨rfl, h2⟩
  have H2 := Lib.hid h2
  clear h2
  go_wp2_with fail
  go_end0
  exact ⟨rfl, H2.out⟩
set_option maxHeartbeats 1600000 in
theorem askId_wr (w0 w : World) (P M : Nat) (out : List UInt8) (blk blk0 : Option Nat) (mc : Array Value) (v : Int) (h : WrSt w0 w P M 33 out blk blk0 mc) (ho : mc[1]? = some (.int .u32 v)) (hv : 0 ≤ v ∧ v < 4294967296) (hl : out.length ≤ 1000000) :
    Calls Try.prog 48 #[.pointer (some ⟨P, 0, none⟩), .pointer (some ⟨M, 0, none⟩)] w fun e w' => e = .returned (.tuple #[]) ∧ ∃ blk', WrSt w0 w' P M 33 (out ++ beW v 4) blk' blk0 mc := by
  have K := Lib.hid (word_wr w0 w P M 33 out blk blk0 mc 1 v h ho hv hl)
  clear h ho hv hl
  go_enter Try.func48, Try.ntmps48
  go_wp2_with fail
  refine K.out.mono ?_
  rintro e w2 ⟨rfl, h2⟩
  have H2 := Lib.hid h2
  clear h2
  go_wp2_with fail
  go_end0
  exact ⟨rfl, H2.out⟩
set_option maxHeartbeats 1600000 in
theorem tellErr_rd (w0 w : World) (P M : Nat) (A : Option Addr) (c : Nat) (bs : List UInt8) (mc : Array Value) (v : Int) (h : RdSt w0 w P M 42 A c bs mc) (ho : mc[2]? = some (.int .i64 v)) (hk : 1 ≤ bs.length) (hb : beN (bs.take 1) ≤ 16) :
    Calls Try.prog 66 #[.pointer (some ⟨P, 0, none⟩), .pointer (some ⟨M, 0, none⟩)] w fun e w' => e = .returned (.tuple #[]) ∧ RdSt w0 w' P M 42 (cutA A c 1) (c - 1) (bs.drop 1) (mc.setIfInBounds 2 (.int .i64 (beN (bs.take 1) : Int))) := by
  have K := Lib.hid (errno_rd w0 w P M 42 A c bs mc 2 v h ho hk hb)
  clear h ho hk
  go_enter Try.func66, Try.ntmps66
  go_wp2_with fail
  refine K.out.mono ?_
  rintro e w2 ⟨rfl, h2⟩
  have H2 := Lib.hid h2
  clear h2
  go_wp2_with fail
  go_end0
  exact ⟨rfl, H2.out⟩
set_option maxHeartbeats 1600000 in
theorem tellErr_wr (w0 w : World) (P M : Nat) (out : List UInt8) (blk blk0 : Option Nat) (mc : Array Value) (v : Int) (h : WrSt w0 w P M 42 out blk blk0 mc) (ho : mc[2]? = some (.int .i64 v)) (hv : 0 ≤ v ∧ v ≤ 16) (hl : out.length ≤ 1000000) :
    Calls Try.prog 66 #[.pointer (some ⟨P, 0, none⟩), .pointer (some ⟨M, 0, none⟩)] w fun e w' => e = .returned (.tuple #[]) ∧ ∃ blk', WrSt w0 w' P M 42 (out ++ beW v 1) blk' blk0 mc := by
  have K := Lib.hid (errno_wr w0 w P M 42 out blk blk0 mc 2 v h ho hv hl)
  clear h ho hv hl
  go_enter Try.func66, Try.ntmps66
  go_wp2_with fail
  refine K.out.mono ?_
  rintro e w2 ⟨rfl, h2⟩
  have H2 := Lib.hid h2
  clear h2
  go_wp2_with fail
  go_end0
  exact ⟨rfl, H2.out⟩
set_option maxHeartbeats 3200000 in
theorem overQ_any (w : World) (P M fb fo fc : Nat) (fs : List Nat) (Q : Nat → World → Prop)
    (hent : ∀ i (h : i < fs.length) args W, (callFunc fs[i] args).run Try.prog W = .ok (.enter fs[i] args) W)
    (hF : ∀ i W, Q i W → ∀ j (h : j < fs.length), W.cell? ⟨fb, fo + j, none⟩ = some (.func (.func fs[j]) #[] #[]))
    (h0 : Q 0 (w.alloc (.cells #[.bool false] 4))) (hE : ∀ i W, Q i W → W.cell? ⟨w.heap.size, 0, none⟩ = some (.bool false) ∧ W.frozen? ⟨w.heap.size, 0, none⟩ = false)
    (hstep : ∀ i (h : i < fs.length) W, Q i W → Calls Try.prog fs[i] #[.pointer (some ⟨P, 0, none⟩), .pointer (some ⟨M, 0, none⟩)] W fun e w' => e = .returned (.tuple #[]) ∧ Q (i + 1) w')
    (hend : ∀ W, Q fs.length W → ∃ A m c, W.cell? ⟨P, 0, none⟩ = some (.slice A m c) ∧ (W.cell? ⟨P, 1, none⟩ = some (.bool false) ∨ (W.cell? ⟨P, 1, none⟩ = some (.bool true) ∧ m = 0))) (hl : fs.length ≤ 1000) :
    Calls Try.prog 30 #[.pointer (some ⟨P, 0, none⟩), .pointer (some ⟨M, 0, none⟩), .slice (some ⟨fb, fo, none⟩) fs.length fc] w fun e w' => e = .returned (.bool false) ∧ ∃ W, Q fs.length W ∧ w' = W.setCell ⟨w.heap.size, 0, none⟩ (.bool false) := by
  have HENT := Lib.hid hent
  have HF := Lib.hid hF
  have H0 := Lib.hid h0
  have HE := Lib.hid hE
  have HS := Lib.hid hstep
  have HEND := Lib.hid hend
  have KY := Lib.hid (fun w => check_yes w)
  obtain ⟨n, hn⟩ : ∃ n, fs.length = n := ⟨_, rfl⟩
  have HN := Lib.hid hn
  rw [hn] at hl
  rw [hn]
  clear hent hF h0 hE hstep hend hn
  go_enter_defers Try.func30, Try.ntmps30
  go_wp2_with fail
  go_loopw [11] (fun y wr => ∃ i : Nat, i ≤ n ∧ y = .int .i64 (i : Int) ∧ Hid (Q i wr)) (fun y _ => n - (intOf y).toNat)
  case atStart => exact ⟨0, Nat.zero_le _, rfl, Lib.hid H0.out⟩
  case round =>
    obtain ⟨i, hi, rfl, HQ⟩ := hrel
    by_cases hlt : i < n
    · have i1 : (i : Int) < (n : Int) := by omega
      have hfl : i < fs.length := by rw [HN.out]; exact hlt
      have c0 := HF.out i wr HQ.out i hfl
      have hc := fun args W => HENT.out i hfl args W
      obtain ⟨f, hf⟩ : ∃ f, fs[i] = f := ⟨_, rfl⟩
      have KS := Lib.hid (HS.out i hfl wr HQ.out)
      rw [hf] at c0 hc KS
      clear hf
      go_wp2_with fail
      refine KS.out.mono ?_
      rintro e w2 ⟨rfl, h2⟩
      have H2 := Lib.hid h2
      clear h2 c0 hc
      go_wp2_with fail
      go_roundw
      case rel => exact ⟨i + 1, hlt, by go_num, H2⟩
      case measure => simp [intOf]; omega
    · obtain rfl : i = n := by omega
      have i1 : ¬ (i : Int) < (i : Int) := by omega
      obtain ⟨A, m, c, a0, a1⟩ := HEND.out wr (by rw [HN.out]; exact HQ.out)
      obtain ⟨e0, z0⟩ := HE.out i wr HQ.out
      rcases a1 with a1 | ⟨a1, rfl⟩
      all_goals
        go_wp2_with fail
        refine (KY.out _).mono ?_
        rintro e w1 ⟨rfl, rfl⟩
        have hr : (w1.setCell ⟨w.heap.size, 0, none⟩ (.bool false)).cell? ⟨w.heap.size, 0, none⟩ = some (.bool false) := World.cell?_setCell_same' _ _ _ (by rw [e0]; rfl)
        go_wp2_with fail
        refine leaves_cons (f := 63) (args := #[.pointer (some ⟨w.heap.size, 0, none⟩)]) (by simp) (by simp [go_sem]) ?_
        refine (guard_idle _ _).mono ?_
        rintro e u' w'' ⟨rfl, rfl, rfl⟩
        simp [Leaves, settle, results, Try.results30, go_sem, hr]
        exact ⟨w1, HQ.out, rfl⟩
set_option maxHeartbeats 3200000 in
theorem overR_any (w : World) (P M fb fo fc : Nat) (fs : List Nat) (Q : Nat → World → Prop)
    (hent : ∀ i (h : i < fs.length) args W, (callFunc fs[i] args).run Try.prog W = .ok (.enter fs[i] args) W)
    (hF : ∀ i W, Q i W → ∀ j (h : j < fs.length), W.cell? ⟨fb, fo + j, none⟩ = some (.func (.func fs[j]) #[] #[]))
    (h0 : Q 0 (w.alloc (.cells #[.bool false] 4))) (hE : ∀ i W, Q i W → W.cell? ⟨w.heap.size, 0, none⟩ = some (.bool false) ∧ W.frozen? ⟨w.heap.size, 0, none⟩ = false)
    (hstep : ∀ i (h : i < fs.length) W, Q i W → Calls Try.prog fs[i] #[.pointer (some ⟨P, 0, none⟩), .pointer (some ⟨M, 0, none⟩)] W fun e w' => e = .returned (.tuple #[]) ∧ Q (i + 1) w')
    (hend : ∀ W, Q fs.length W → ∃ A m c, W.cell? ⟨P, 0, none⟩ = some (.slice A m c) ∧ (W.cell? ⟨P, 1, none⟩ = some (.bool false) ∨ (W.cell? ⟨P, 1, none⟩ = some (.bool true) ∧ m = 0))) (hl : fs.length ≤ 1000) :
    Calls Try.prog 32 #[.pointer (some ⟨P, 0, none⟩), .pointer (some ⟨M, 0, none⟩), .slice (some ⟨fb, fo, none⟩) fs.length fc] w fun e w' => e = .returned (.bool false) ∧ ∃ W, Q fs.length W ∧ w' = W.setCell ⟨w.heap.size, 0, none⟩ (.bool false) := by
  have HENT := Lib.hid hent
  have HF := Lib.hid hF
  have H0 := Lib.hid h0
  have HE := Lib.hid hE
  have HS := Lib.hid hstep
  have HEND := Lib.hid hend
  have KY := Lib.hid (fun w => check_yes w)
  obtain ⟨n, hn⟩ : ∃ n, fs.length = n := ⟨_, rfl⟩
  have HN := Lib.hid hn
  rw [hn] at hl
  rw [hn]
  clear hent hF h0 hE hstep hend hn
  go_enter_defers Try.func32, Try.ntmps32
  go_wp2_with fail
  go_loopw [11] (fun y wr => ∃ i : Nat, i ≤ n ∧ y = .int .i64 (i : Int) ∧ Hid (Q i wr)) (fun y _ => n - (intOf y).toNat)
  case atStart => exact ⟨0, Nat.zero_le _, rfl, Lib.hid H0.out⟩
  case round =>
    obtain ⟨i, hi, rfl, HQ⟩ := hrel
    by_cases hlt : i < n
    · have i1 : (i : Int) < (n : Int) := by omega
      have hfl : i < fs.length := by rw [HN.out]; exact hlt
      have c0 := HF.out i wr HQ.out i hfl
      have hc := fun args W => HENT.out i hfl args W
      obtain ⟨f, hf⟩ : ∃ f, fs[i] = f := ⟨_, rfl⟩
      have KS := Lib.hid (HS.out i hfl wr HQ.out)
      rw [hf] at c0 hc KS
      clear hf
      go_wp2_with fail
      refine KS.out.mono ?_
      rintro e w2 ⟨rfl, h2⟩
      have H2 := Lib.hid h2
      clear h2 c0 hc
      go_wp2_with fail
      go_roundw
      case rel => exact ⟨i + 1, hlt, by go_num, H2⟩
      case measure => simp [intOf]; omega
    · obtain rfl : i = n := by omega
      have i1 : ¬ (i : Int) < (i : Int) := by omega
      obtain ⟨A, m, c, a0, a1⟩ := HEND.out wr (by rw [HN.out]; exact HQ.out)
      obtain ⟨e0, z0⟩ := HE.out i wr HQ.out
      rcases a1 with a1 | ⟨a1, rfl⟩
      all_goals
        go_wp2_with fail
        refine (KY.out _).mono ?_
        rintro e w1 ⟨rfl, rfl⟩
        have hr : (w1.setCell ⟨w.heap.size, 0, none⟩ (.bool false)).cell? ⟨w.heap.size, 0, none⟩ = some (.bool false) := World.cell?_setCell_same' _ _ _ (by rw [e0]; rfl)
        go_wp2_with fail
        refine leaves_cons (f := 63) (args := #[.pointer (some ⟨w.heap.size, 0, none⟩)]) (by simp) (by simp [go_sem]) ?_
        refine (guard_idle _ _).mono ?_
        rintro e u' w'' ⟨rfl, rfl, rfl⟩
        simp [Leaves, settle, results, Try.results32, go_sem, hr]
        exact ⟨w1, HQ.out, rfl⟩
end Go.Proofs.Ytnbcjjgilndlaaa
