/- Messages: over the parts of a request with a model. Helper. -/
import Derived.Test.YtnbcjjgilndlaaaRdRdr
import Derived.Test.YtnbcjjgilndlaaaRdPen
import Derived.Defers
import Derived.Test.YtnbcjjgilndlaaaRdTx
namespace Go.Proofs.Ytnbcjjgilndlaaa
open Go.RowKit
set_option linter.unusedVariables false
set_option linter.unusedSimpArgs false
set_option maxRecDepth 100000
set_option maxHeartbeats 3200000 in
theorem overQ_gen (w : World) (P M fb fo fc : Nat) (fs : List Nat) (Q : Nat → World → Prop) (R : World → Prop)
    (hent : ∀ i (h : i < fs.length) args W, (callFunc fs[i] args).run Try.prog W = .ok (.enter fs[i] args) W)
    (hF : ∀ i W, Q i W → ∀ j (h : j < fs.length), W.cell? ⟨fb, fo + j, none⟩ = some (.func (.func fs[j]) #[] #[]))
    (h0 : Q 0 (w.alloc (.cells #[.bool false] 4))) (hE : ∀ i W, Q i W → W.cell? ⟨w.heap.size, 0, none⟩ = some (.bool false) ∧ W.frozen? ⟨w.heap.size, 0, none⟩ = false)
    (hR : ∀ W, R W → W.cell? ⟨w.heap.size, 0, none⟩ = some (.bool false) ∧ W.frozen? ⟨w.heap.size, 0, none⟩ = false)
    (hstep : ∀ i (h : i < fs.length) W, Q i W → Calls Try.prog fs[i] #[.pointer (some ⟨P, 0, none⟩), .pointer (some ⟨M, 0, none⟩)] W fun e w' => (e = .returned (.tuple #[]) ∧ Q (i + 1) w') ∨ (e = .panicked boom ∧ R w'))
    (hend : ∀ W, Q fs.length W → ∃ A m c, W.cell? ⟨P, 0, none⟩ = some (.slice A m c) ∧ (W.cell? ⟨P, 1, none⟩ = some (.bool false) ∨ (W.cell? ⟨P, 1, none⟩ = some (.bool true) ∧ (0 < m → R W)))) (hl : fs.length ≤ 1000) :
    Calls Try.prog 30 #[.pointer (some ⟨P, 0, none⟩), .pointer (some ⟨M, 0, none⟩), .slice (some ⟨fb, fo, none⟩) fs.length fc] w fun e w' =>
      (e = .returned (.bool false) ∧ ∃ W A m c, Q fs.length W ∧ W.cell? ⟨P, 0, none⟩ = some (.slice A m c) ∧ (W.cell? ⟨P, 1, none⟩ = some (.bool false) ∨ m = 0) ∧ w' = W.setCell ⟨w.heap.size, 0, none⟩ (.bool false)) ∨
      (e = .returned (.bool true) ∧ ∃ W, R W ∧ w' = (W.alloc (.cells #[] 128)).setCell ⟨w.heap.size, 0, none⟩ (.bool true)) := by
  have HENT := Lib.hid hent
  have HF := Lib.hid hF
  have H0 := Lib.hid h0
  have HE := Lib.hid hE
  have HR := Lib.hid hR
  have HS := Lib.hid hstep
  have HEND := Lib.hid hend
  have KY := Lib.hid (fun w => check_yes w)
  have KN := Lib.hid (fun w => check_no w)
  obtain ⟨n, hn⟩ : ∃ n, fs.length = n := ⟨_, rfl⟩
  have HN := Lib.hid hn
  rw [hn] at hl
  rw [hn]
  clear hent hF h0 hE hR hstep hend hn
  go_enter_defers Try.func30, Try.ntmps30
  go_wp2_with fail
  go_loopw [11] (fun y wr => ∃ i : Nat, i ≤ n ∧ y = .int .i64 (i : Int) ∧ Hid (Q i wr)) (fun y _ => n - (intOf y).toNat)
  case atStart => exact ⟨0, Nat.zero_le _, rfl, Lib.hid H0.out⟩
  case round =>
    obtain ⟨i, hi, rfl, HQ⟩ := hrel
    by_cases hlt : i < n
    · have i1 : (i : Int) < (n : Int) := by omega
      have hfl : i < fs.length := by rw [HN.out]; exact hlt
      have c0 := HF.out i wr HQ.out i hfl
      have hc := fun args W => HENT.out i hfl args W
      obtain ⟨f, hf⟩ : ∃ f, fs[i] = f := ⟨_, rfl⟩
      have KS := Lib.hid (HS.out i hfl wr HQ.out)
      rw [hf] at c0 hc KS
      clear hf
      go_wp2_with fail
      refine KS.out.mono ?_
      rintro e w2 (⟨rfl, h2⟩ | ⟨rfl, h2⟩)
      · have H2 := Lib.hid h2
        clear h2 c0 hc
        go_wp2_with fail
        go_roundw
        case rel => exact ⟨i + 1, hlt, by go_num, H2⟩
        case measure => simp [intOf]; omega
      · obtain ⟨e0, z0⟩ := HR.out w2 h2
        clear c0 hc
        refine leaves_cons (f := 63) (args := #[.pointer (some ⟨w.heap.size, 0, none⟩)]) (by simp) (by simp [go_sem]) ?_
        refine (guard_caught _ false _ e0 z0).mono ?_
        rintro e u' w'' ⟨rfl, rfl, rfl⟩
        have hr : ((w2.alloc (.cells #[] 128)).setCell ⟨w.heap.size, 0, none⟩ (.bool true)).cell? ⟨w.heap.size, 0, none⟩ = some (.bool true) := World.cell?_setCell_same' _ _ _ (by rw [((Nw.refl w2).alloc _).cell e0]; rfl)
        simp [Leaves, settle, results, Try.results30, go_sem, hr, caught]
        exact ⟨w2, h2, rfl⟩
    · obtain rfl : i = n := by omega
      have i1 : ¬ (i : Int) < (i : Int) := by omega
      obtain ⟨A, m, c, a0, a1⟩ := HEND.out wr (by rw [HN.out]; exact HQ.out)
      obtain ⟨e0, z0⟩ := HE.out i wr HQ.out
      have h2 : ¬ (wr.cell? ⟨P, 1, none⟩ = some (.bool false) ∨ m = 0) → R wr := fun h => by
        rcases a1 with a1 | ⟨_, a1⟩
        · exact absurd (.inl a1) h
        · exact a1 (by have : ¬ m = 0 := fun q => h (.inr q); omega)
      have HA := Lib.hid (And.intro a0 h2)
      by_cases hz : wr.cell? ⟨P, 1, none⟩ = some (.bool false)
      · clear a1 h2
        go_wp2_with fail
        refine (KY.out _).mono ?_
        rintro e w1 ⟨rfl, rfl⟩
        have hr : (w1.setCell ⟨w.heap.size, 0, none⟩ (.bool false)).cell? ⟨w.heap.size, 0, none⟩ = some (.bool false) := World.cell?_setCell_same' _ _ _ (by rw [e0]; rfl)
        go_wp2_with fail
        refine leaves_cons (f := 63) (args := #[.pointer (some ⟨w.heap.size, 0, none⟩)]) (by simp) (by simp [go_sem]) ?_
        refine (guard_idle _ _).mono ?_
        rintro e u' w'' ⟨rfl, rfl, rfl⟩
        simp [Leaves, settle, results, Try.results30, go_sem, hr]
        exact ⟨w1, HQ.out, A, m, ⟨c, HA.out.1⟩, .inl hz, rfl⟩
      · have a2 : wr.cell? ⟨P, 1, none⟩ = some (.bool true) := a1.elim (fun q => absurd q hz) (fun q => q.1)
        by_cases hm : m = 0
        · subst hm
          clear a1 h2
          go_wp2_with fail
          refine (KY.out _).mono ?_
          rintro e w1 ⟨rfl, rfl⟩
          have hr : (w1.setCell ⟨w.heap.size, 0, none⟩ (.bool false)).cell? ⟨w.heap.size, 0, none⟩ = some (.bool false) := World.cell?_setCell_same' _ _ _ (by rw [e0]; rfl)
          go_wp2_with fail
          refine leaves_cons (f := 63) (args := #[.pointer (some ⟨w.heap.size, 0, none⟩)]) (by simp) (by simp [go_sem]) ?_
          refine (guard_idle _ _).mono ?_
          rintro e u' w'' ⟨rfl, rfl, rfl⟩
          simp [Leaves, settle, results, Try.results30, go_sem, hr]
          exact ⟨w1, HQ.out, A, 0, ⟨c, HA.out.1⟩, .inr rfl, rfl⟩
        · have hm1 : ¬ (m : Int) = 0 := by omega
          have h2 := h2 (fun q => q.elim hz hm)
          clear a1
          go_wp2_with fail
          rw [show ((m : Int) == 0) = false by simpa using hm]
          refine (KN.out _).mono ?_
          rintro e w2 ⟨rfl, rfl⟩
          refine leaves_cons (f := 63) (args := #[.pointer (some ⟨w.heap.size, 0, none⟩)]) (by simp) (by simp [go_sem]) ?_
          refine (guard_caught _ false _ e0 z0).mono ?_
          rintro e u' w'' ⟨rfl, rfl, rfl⟩
          have hr : ((w2.alloc (.cells #[] 128)).setCell ⟨w.heap.size, 0, none⟩ (.bool true)).cell? ⟨w.heap.size, 0, none⟩ = some (.bool true) := World.cell?_setCell_same' _ _ _ (by rw [((Nw.refl w2).alloc _).cell e0]; rfl)
          simp [Leaves, settle, results, Try.results30, go_sem, hr, caught]
          exact ⟨w2, h2, rfl⟩
set_option maxHeartbeats 3200000 in
theorem overR_gen (w : World) (P M fb fo fc : Nat) (fs : List Nat) (Q : Nat → World → Prop) (R : World → Prop)
    (hent : ∀ i (h : i < fs.length) args W, (callFunc fs[i] args).run Try.prog W = .ok (.enter fs[i] args) W)
    (hF : ∀ i W, Q i W → ∀ j (h : j < fs.length), W.cell? ⟨fb, fo + j, none⟩ = some (.func (.func fs[j]) #[] #[]))
    (h0 : Q 0 (w.alloc (.cells #[.bool false] 4))) (hE : ∀ i W, Q i W → W.cell? ⟨w.heap.size, 0, none⟩ = some (.bool false) ∧ W.frozen? ⟨w.heap.size, 0, none⟩ = false)
    (hR : ∀ W, R W → W.cell? ⟨w.heap.size, 0, none⟩ = some (.bool false) ∧ W.frozen? ⟨w.heap.size, 0, none⟩ = false)
    (hstep : ∀ i (h : i < fs.length) W, Q i W → Calls Try.prog fs[i] #[.pointer (some ⟨P, 0, none⟩), .pointer (some ⟨M, 0, none⟩)] W fun e w' => (e = .returned (.tuple #[]) ∧ Q (i + 1) w') ∨ (e = .panicked boom ∧ R w'))
    (hend : ∀ W, Q fs.length W → ∃ A m c, W.cell? ⟨P, 0, none⟩ = some (.slice A m c) ∧ (W.cell? ⟨P, 1, none⟩ = some (.bool false) ∨ (W.cell? ⟨P, 1, none⟩ = some (.bool true) ∧ (0 < m → R W)))) (hl : fs.length ≤ 1000) :
    Calls Try.prog 32 #[.pointer (some ⟨P, 0, none⟩), .pointer (some ⟨M, 0, none⟩), .slice (some ⟨fb, fo, none⟩) fs.length fc] w fun e w' =>
      (e = .returned (.bool false) ∧ ∃ W A m c, Q fs.length W ∧ W.cell? ⟨P, 0, none⟩ = some (.slice A m c) ∧ (W.cell? ⟨P, 1, none⟩ = some (.bool false) ∨ m = 0) ∧ w' = W.setCell ⟨w.heap.size, 0, none⟩ (.bool false)) ∨
      (e = .returned (.bool true) ∧ ∃ W, R W ∧ w' = (W.alloc (.cells #[] 128)).setCell ⟨w.heap.size, 0, none⟩ (.bool true)) := by
  have HENT := Lib.hid hent
  have HF := Lib.hid hF
  have H0 := Lib.hid h0
  have HE := Lib.hid hE
  have HR := Lib.hid hR
  have HS := Lib.hid hstep
  have HEND := Lib.hid hend
  have KY := Lib.hid (fun w => check_yes w)
  have KN := Lib.hid (fun w => check_no w)
  obtain ⟨n, hn⟩ : ∃ n, fs.length = n := ⟨_, rfl⟩
  have HN := Lib.hid hn
  rw [hn] at hl
  rw [hn]
  clear hent hF h0 hE hR hstep hend hn
  go_enter_defers Try.func32, Try.ntmps32
  go_wp2_with fail
  go_loopw [11] (fun y wr => ∃ i : Nat, i ≤ n ∧ y = .int .i64 (i : Int) ∧ Hid (Q i wr)) (fun y _ => n - (intOf y).toNat)
  case atStart => exact ⟨0, Nat.zero_le _, rfl, Lib.hid H0.out⟩
  case round =>
    obtain ⟨i, hi, rfl, HQ⟩ := hrel
    by_cases hlt : i < n
    · have i1 : (i : Int) < (n : Int) := by omega
      have hfl : i < fs.length := by rw [HN.out]; exact hlt
      have c0 := HF.out i wr HQ.out i hfl
      have hc := fun args W => HENT.out i hfl args W
      obtain ⟨f, hf⟩ : ∃ f, fs[i] = f := ⟨_, rfl⟩
      have KS := Lib.hid (HS.out i hfl wr HQ.out)
      rw [hf] at c0 hc KS
      clear hf
      go_wp2_with fail
      refine KS.out.mono ?_
      rintro e w2 (⟨rfl, h2⟩ | ⟨rfl, h2⟩)
      · have H2 := Lib.hid h2
        clear h2 c0 hc
        go_wp2_with fail
        go_roundw
        case rel => exact ⟨i + 1, hlt, by go_num, H2⟩
        case measure => simp [intOf]; omega
      · obtain ⟨e0, z0⟩ := HR.out w2 h2
        clear c0 hc
        refine leaves_cons (f := 63) (args := #[.pointer (some ⟨w.heap.size, 0, none⟩)]) (by simp) (by simp [go_sem]) ?_
        refine (guard_caught _ false _ e0 z0).mono ?_
        rintro e u' w'' ⟨rfl, rfl, rfl⟩
        have hr : ((w2.alloc (.cells #[] 128)).setCell ⟨w.heap.size, 0, none⟩ (.bool true)).cell? ⟨w.heap.size, 0, none⟩ = some (.bool true) := World.cell?_setCell_same' _ _ _ (by rw [((Nw.refl w2).alloc _).cell e0]; rfl)
        simp [Leaves, settle, results, Try.results32, go_sem, hr, caught]
        exact ⟨w2, h2, rfl⟩
    · obtain rfl : i = n := by omega
      have i1 : ¬ (i : Int) < (i : Int) := by omega
      obtain ⟨A, m, c, a0, a1⟩ := HEND.out wr (by rw [HN.out]; exact HQ.out)
      obtain ⟨e0, z0⟩ := HE.out i wr HQ.out
      have h2 : ¬ (wr.cell? ⟨P, 1, none⟩ = some (.bool false) ∨ m = 0) → R wr := fun h => by
        rcases a1 with a1 | ⟨_, a1⟩
        · exact absurd (.inl a1) h
        · exact a1 (by have : ¬ m = 0 := fun q => h (.inr q); omega)
      have HA := Lib.hid (And.intro a0 h2)
      by_cases hz : wr.cell? ⟨P, 1, none⟩ = some (.bool false)
      · clear a1 h2
        go_wp2_with fail
        refine (KY.out _).mono ?_
        rintro e w1 ⟨rfl, rfl⟩
        have hr : (w1.setCell ⟨w.heap.size, 0, none⟩ (.bool false)).cell? ⟨w.heap.size, 0, none⟩ = some (.bool false) := World.cell?_setCell_same' _ _ _ (by rw [e0]; rfl)
        go_wp2_with fail
        refine leaves_cons (f := 63) (args := #[.pointer (some ⟨w.heap.size, 0, none⟩)]) (by simp) (by simp [go_sem]) ?_
        refine (guard_idle _ _).mono ?_
        rintro e u' w'' ⟨rfl, rfl, rfl⟩
        simp [Leaves, settle, results, Try.results32, go_sem, hr]
        exact ⟨w1, HQ.out, A, m, ⟨c, HA.out.1⟩, .inl hz, rfl⟩
      · have a2 : wr.cell? ⟨P, 1, none⟩ = some (.bool true) := a1.elim (fun q => absurd q hz) (fun q => q.1)
        by_cases hm : m = 0
        · subst hm
          clear a1 h2
          go_wp2_with fail
          refine (KY.out _).mono ?_
          rintro e w1 ⟨rfl, rfl⟩
          have hr : (w1.setCell ⟨w.heap.size, 0, none⟩ (.bool false)).cell? ⟨w.heap.size, 0, none⟩ = some (.bool false) := World.cell?_setCell_same' _ _ _ (by rw [e0]; rfl)
          go_wp2_with fail
          refine leaves_cons (f := 63) (args := #[.pointer (some ⟨w.heap.size, 0, none⟩)]) (by simp) (by simp [go_sem]) ?_
          refine (guard_idle _ _).mono ?_
          rintro e u' w'' ⟨rfl, rfl, rfl⟩
          simp [Leaves, settle, results, Try.results32, go_sem, hr]
          exact ⟨w1, HQ.out, A, 0, ⟨c, HA.out.1⟩, .inr rfl, rfl⟩
        · have hm1 : ¬ (m : Int) = 0 := by omega
          have h2 := h2 (fun q => q.elim hz hm)
          clear a1
          go_wp2_with fail
          rw [show ((m : Int) == 0) = false by simpa using hm]
          refine (KN.out _).mono ?_
          rintro e w2 ⟨rfl, rfl⟩
          refine leaves_cons (f := 63) (args := #[.pointer (some ⟨w.heap.size, 0, none⟩)]) (by simp) (by simp [go_sem]) ?_
          refine (guard_caught _ false _ e0 z0).mono ?_
          rintro e u' w'' ⟨rfl, rfl, rfl⟩
          have hr : ((w2.alloc (.cells #[] 128)).setCell ⟨w.heap.size, 0, none⟩ (.bool true)).cell? ⟨w.heap.size, 0, none⟩ = some (.bool true) := World.cell?_setCell_same' _ _ _ (by rw [((Nw.refl w2).alloc _).cell e0]; rfl)
          simp [Leaves, settle, results, Try.results32, go_sem, hr, caught]
          exact ⟨w2, h2, rfl⟩
end Go.Proofs.Ytnbcjjgilndlaaa
/- Messages: the tables' parts. Helper. -/
namespace Go.Proofs.Ytnbcjjgilndlaaa
open Go.RowKit
set_option linter.unusedVariables false
set_option linter.unusedSimpArgs false
set_option maxRecDepth 100000
theorem asks1_of (w : World) (P M : Nat) (Q : Ending → World → Prop) (hQ : ∀ e w', Q e w' → e = .returned (.tuple #[]) ∨ e = .panicked boom) (K : Calls Try.prog 49 #[.pointer (some ⟨P, 0, none⟩), .pointer (some ⟨M, 1, none⟩)] w Q) :
    Calls Try.prog 48 #[.pointer (some ⟨P, 0, none⟩), .pointer (some ⟨M, 0, none⟩)] w Q := by
  have KK := Lib.hid K
  have HQ := Lib.hid hQ
  clear K hQ
  go_enter Try.func48, Try.ntmps48
  go_wp2_with fail
  refine KK.out.mono ?_
  intro e w2 hq
  have H := Lib.hid hq
  rcases HQ.out e w2 hq with rfl | rfl
  · clear hq
    go_wp2_with fail
    go_end0
    exact H.out
  · exact ⟨rfl, H.out⟩
theorem asks2_of (w : World) (P M : Nat) (Q : Ending → World → Prop) (hQ : ∀ e w', Q e w' → e = .returned (.tuple #[]) ∨ e = .panicked boom) (K : Calls Try.prog 51 #[.pointer (some ⟨P, 0, none⟩), .pointer (some ⟨M, 2, none⟩)] w Q) :
    Calls Try.prog 50 #[.pointer (some ⟨P, 0, none⟩), .pointer (some ⟨M, 0, none⟩)] w Q := by
  have KK := Lib.hid K
  have HQ := Lib.hid hQ
  clear K hQ
  go_enter Try.func50, Try.ntmps50
  go_wp2_with fail
  refine KK.out.mono ?_
  intro e w2 hq
  have H := Lib.hid hq
  rcases HQ.out e w2 hq with rfl | rfl
  · clear hq
    go_wp2_with fail
    go_end0
    exact H.out
  · exact ⟨rfl, H.out⟩
theorem asks3_of (w : World) (P M : Nat) (Q : Ending → World → Prop) (hQ : ∀ e w', Q e w' → e = .returned (.tuple #[]) ∨ e = .panicked boom) (K : Calls Try.prog 53 #[.pointer (some ⟨P, 0, none⟩), .pointer (some ⟨M, 3, none⟩)] w Q) :
    Calls Try.prog 52 #[.pointer (some ⟨P, 0, none⟩), .pointer (some ⟨M, 0, none⟩)] w Q := by
  have KK := Lib.hid K
  have HQ := Lib.hid hQ
  clear K hQ
  go_enter Try.func52, Try.ntmps52
  go_wp2_with fail
  refine KK.out.mono ?_
  intro e w2 hq
  have H := Lib.hid hq
  rcases HQ.out e w2 hq with rfl | rfl
  · clear hq
    go_wp2_with fail
    go_end0
    exact H.out
  · exact ⟨rfl, H.out⟩
theorem asks4_of (w : World) (P M : Nat) (Q : Ending → World → Prop) (hQ : ∀ e w', Q e w' → e = .returned (.tuple #[]) ∨ e = .panicked boom) (K : Calls Try.prog 55 #[.pointer (some ⟨P, 0, none⟩), .pointer (some ⟨M, 4, none⟩)] w Q) :
    Calls Try.prog 54 #[.pointer (some ⟨P, 0, none⟩), .pointer (some ⟨M, 0, none⟩)] w Q := by
  have KK := Lib.hid K
  have HQ := Lib.hid hQ
  clear K hQ
  go_enter Try.func54, Try.ntmps54
  go_wp2_with fail
  refine KK.out.mono ?_
  intro e w2 hq
  have H := Lib.hid hq
  rcases HQ.out e w2 hq with rfl | rfl
  · clear hq
    go_wp2_with fail
    go_end0
    exact H.out
  · exact ⟨rfl, H.out⟩
theorem asks5_of (w : World) (P M : Nat) (Q : Ending → World → Prop) (hQ : ∀ e w', Q e w' → e = .returned (.tuple #[]) ∨ e = .panicked boom) (K : Calls Try.prog 49 #[.pointer (some ⟨P, 0, none⟩), .pointer (some ⟨M, 10, none⟩)] w Q) :
    Calls Try.prog 56 #[.pointer (some ⟨P, 0, none⟩), .pointer (some ⟨M, 0, none⟩)] w Q := by
  have KK := Lib.hid K
  have HQ := Lib.hid hQ
  clear K hQ
  go_enter Try.func56, Try.ntmps56
  go_wp2_with fail
  refine KK.out.mono ?_
  intro e w2 hq
  have H := Lib.hid hq
  rcases HQ.out e w2 hq with rfl | rfl
  · clear hq
    go_wp2_with fail
    go_end0
    exact H.out
  · exact ⟨rfl, H.out⟩
theorem asks6_of (w : World) (P M : Nat) (Q : Ending → World → Prop) (hQ : ∀ e w', Q e w' → e = .returned (.tuple #[]) ∨ e = .panicked boom) (K : Calls Try.prog 58 #[.pointer (some ⟨P, 0, none⟩), .pointer (some ⟨M, 11, none⟩)] w Q) :
    Calls Try.prog 57 #[.pointer (some ⟨P, 0, none⟩), .pointer (some ⟨M, 0, none⟩)] w Q := by
  have KK := Lib.hid K
  have HQ := Lib.hid hQ
  clear K hQ
  go_enter Try.func57, Try.ntmps57
  go_wp2_with fail
  refine KK.out.mono ?_
  intro e w2 hq
  have H := Lib.hid hq
  rcases HQ.out e w2 hq with rfl | rfl
  · clear hq
    go_wp2_with fail
    go_end0
    exact H.out
  · exact ⟨rfl, H.out⟩
theorem asks7_of (w : World) (P M : Nat) (Q : Ending → World → Prop) (hQ : ∀ e w', Q e w' → e = .returned (.tuple #[]) ∨ e = .panicked boom) (K : Calls Try.prog 51 #[.pointer (some ⟨P, 0, none⟩), .pointer (some ⟨M, 14, none⟩)] w Q) :
    Calls Try.prog 59 #[.pointer (some ⟨P, 0, none⟩), .pointer (some ⟨M, 0, none⟩)] w Q := by
  have KK := Lib.hid K
  have HQ := Lib.hid hQ
  clear K hQ
  go_enter Try.func59, Try.ntmps59
  go_wp2_with fail
  refine KK.out.mono ?_
  intro e w2 hq
  have H := Lib.hid hq
  rcases HQ.out e w2 hq with rfl | rfl
  · clear hq
    go_wp2_with fail
    go_end0
    exact H.out
  · exact ⟨rfl, H.out⟩
theorem asks8_of (w : World) (P M : Nat) (Q : Ending → World → Prop) (hQ : ∀ e w', Q e w' → e = .returned (.tuple #[]) ∨ e = .panicked boom) (K : Calls Try.prog 61 #[.pointer (some ⟨P, 0, none⟩), .pointer (some ⟨M, 15, none⟩)] w Q) :
    Calls Try.prog 60 #[.pointer (some ⟨P, 0, none⟩), .pointer (some ⟨M, 0, none⟩)] w Q := by
  have KK := Lib.hid K
  have HQ := Lib.hid hQ
  clear K hQ
  go_enter Try.func60, Try.ntmps60
  go_wp2_with fail
  refine KK.out.mono ?_
  intro e w2 hq
  have H := Lib.hid hq
  rcases HQ.out e w2 hq with rfl | rfl
  · clear hq
    go_wp2_with fail
    go_end0
    exact H.out
  · exact ⟨rfl, H.out⟩
theorem asks9_of (w : World) (P M : Nat) (Q : Ending → World → Prop) (hQ : ∀ e w', Q e w' → e = .returned (.tuple #[]) ∨ e = .panicked boom) (K : Calls Try.prog 61 #[.pointer (some ⟨P, 0, none⟩), .pointer (some ⟨M, 16, none⟩)] w Q) :
    Calls Try.prog 62 #[.pointer (some ⟨P, 0, none⟩), .pointer (some ⟨M, 0, none⟩)] w Q := by
  have KK := Lib.hid K
  have HQ := Lib.hid hQ
  clear K hQ
  go_enter Try.func62, Try.ntmps62
  go_wp2_with fail
  refine KK.out.mono ?_
  intro e w2 hq
  have H := Lib.hid hq
  rcases HQ.out e w2 hq with rfl | rfl
  · clear hq
    go_wp2_with fail
    go_end0
    exact H.out
  · exact ⟨rfl, H.out⟩
theorem tells1_of (w : World) (P M : Nat) (Q : Ending → World → Prop) (hQ : ∀ e w', Q e w' → e = .returned (.tuple #[]) ∨ e = .panicked boom) (K : Calls Try.prog 49 #[.pointer (some ⟨P, 0, none⟩), .pointer (some ⟨M, 1, none⟩)] w Q) :
    Calls Try.prog 65 #[.pointer (some ⟨P, 0, none⟩), .pointer (some ⟨M, 0, none⟩)] w Q := by
  have KK := Lib.hid K
  have HQ := Lib.hid hQ
  clear K hQ
  go_enter Try.func65, Try.ntmps65
  go_wp2_with fail
  refine KK.out.mono ?_
  intro e w2 hq
  have H := Lib.hid hq
  rcases HQ.out e w2 hq with rfl | rfl
  · clear hq
    go_wp2_with fail
    go_end0
    exact H.out
  · exact ⟨rfl, H.out⟩
theorem tells2_of (w : World) (P M : Nat) (Q : Ending → World → Prop) (hQ : ∀ e w', Q e w' → e = .returned (.tuple #[]) ∨ e = .panicked boom) (K : Calls Try.prog 67 #[.pointer (some ⟨P, 0, none⟩), .pointer (some ⟨M, 2, none⟩)] w Q) :
    Calls Try.prog 66 #[.pointer (some ⟨P, 0, none⟩), .pointer (some ⟨M, 0, none⟩)] w Q := by
  have KK := Lib.hid K
  have HQ := Lib.hid hQ
  clear K hQ
  go_enter Try.func66, Try.ntmps66
  go_wp2_with fail
  refine KK.out.mono ?_
  intro e w2 hq
  have H := Lib.hid hq
  rcases HQ.out e w2 hq with rfl | rfl
  · clear hq
    go_wp2_with fail
    go_end0
    exact H.out
  · exact ⟨rfl, H.out⟩
theorem tells3_of (w : World) (P M : Nat) (Q : Ending → World → Prop) (hQ : ∀ e w', Q e w' → e = .returned (.tuple #[]) ∨ e = .panicked boom) (K : Calls Try.prog 61 #[.pointer (some ⟨P, 0, none⟩), .pointer (some ⟨M, 3, none⟩)] w Q) :
    Calls Try.prog 68 #[.pointer (some ⟨P, 0, none⟩), .pointer (some ⟨M, 0, none⟩)] w Q := by
  have KK := Lib.hid K
  have HQ := Lib.hid hQ
  clear K hQ
  go_enter Try.func68, Try.ntmps68
  go_wp2_with fail
  refine KK.out.mono ?_
  intro e w2 hq
  have H := Lib.hid hq
  rcases HQ.out e w2 hq with rfl | rfl
  · clear hq
    go_wp2_with fail
    go_end0
    exact H.out
  · exact ⟨rfl, H.out⟩
theorem tells4_of (w : World) (P M : Nat) (Q : Ending → World → Prop) (hQ : ∀ e w', Q e w' → e = .returned (.tuple #[]) ∨ e = .panicked boom) (K : Calls Try.prog 70 #[.pointer (some ⟨P, 0, none⟩), .pointer (some ⟨M, 4, none⟩)] w Q) :
    Calls Try.prog 69 #[.pointer (some ⟨P, 0, none⟩), .pointer (some ⟨M, 0, none⟩)] w Q := by
  have KK := Lib.hid K
  have HQ := Lib.hid hQ
  clear K hQ
  go_enter Try.func69, Try.ntmps69
  go_wp2_with fail
  refine KK.out.mono ?_
  intro e w2 hq
  have H := Lib.hid hq
  rcases HQ.out e w2 hq with rfl | rfl
  · clear hq
    go_wp2_with fail
    go_end0
    exact H.out
  · exact ⟨rfl, H.out⟩
theorem tells5_of (w : World) (P M : Nat) (Q : Ending → World → Prop) (hQ : ∀ e w', Q e w' → e = .returned (.tuple #[]) ∨ e = .panicked boom) (K : Calls Try.prog 72 #[.pointer (some ⟨P, 0, none⟩), .pointer (some ⟨M, 5, none⟩)] w Q) :
    Calls Try.prog 71 #[.pointer (some ⟨P, 0, none⟩), .pointer (some ⟨M, 0, none⟩)] w Q := by
  have KK := Lib.hid K
  have HQ := Lib.hid hQ
  clear K hQ
  go_enter Try.func71, Try.ntmps71
  go_wp2_with fail
  refine KK.out.mono ?_
  intro e w2 hq
  have H := Lib.hid hq
  rcases HQ.out e w2 hq with rfl | rfl
  · clear hq
    go_wp2_with fail
    go_end0
    exact H.out
  · exact ⟨rfl, H.out⟩
theorem tells6_of (w : World) (P M : Nat) (Q : Ending → World → Prop) (hQ : ∀ e w', Q e w' → e = .returned (.tuple #[]) ∨ e = .panicked boom) (K : Calls Try.prog 49 #[.pointer (some ⟨P, 0, none⟩), .pointer (some ⟨M, 11, none⟩)] w Q) :
    Calls Try.prog 73 #[.pointer (some ⟨P, 0, none⟩), .pointer (some ⟨M, 0, none⟩)] w Q := by
  have KK := Lib.hid K
  have HQ := Lib.hid hQ
  clear K hQ
  go_enter Try.func73, Try.ntmps73
  go_wp2_with fail
  refine KK.out.mono ?_
  intro e w2 hq
  have H := Lib.hid hq
  rcases HQ.out e w2 hq with rfl | rfl
  · clear hq
    go_wp2_with fail
    go_end0
    exact H.out
  · exact ⟨rfl, H.out⟩
theorem tells7_of (w : World) (P M : Nat) (Q : Ending → World → Prop) (hQ : ∀ e w', Q e w' → e = .returned (.tuple #[]) ∨ e = .panicked boom) (K : Calls Try.prog 75 #[.pointer (some ⟨P, 0, none⟩), .pointer (some ⟨M, 12, none⟩)] w Q) :
    Calls Try.prog 74 #[.pointer (some ⟨P, 0, none⟩), .pointer (some ⟨M, 0, none⟩)] w Q := by
  have KK := Lib.hid K
  have HQ := Lib.hid hQ
  clear K hQ
  go_enter Try.func74, Try.ntmps74
  go_wp2_with fail
  refine KK.out.mono ?_
  intro e w2 hq
  have H := Lib.hid hq
  rcases HQ.out e w2 hq with rfl | rfl
  · clear hq
    go_wp2_with fail
    go_end0
    exact H.out
  · exact ⟨rfl, H.out⟩
end Go.Proofs.Ytnbcjjgilndlaaa
/- Messages: over the parts of each kind. Helper. -/
namespace Go.Proofs.Ytnbcjjgilndlaaa
open Go.RowKit Go.Shelf
set_option linter.unusedVariables false
set_option linter.unusedSimpArgs false
set_option maxRecDepth 100000
theorem rdPost_two {w0 : World} {P M : Nat} {T : TypeId} {bs : List UInt8} {r : Option (Nat × Array Value)} {e : Ending} {w : World} (h : RdPost w0 P M T bs r e w) : e = .returned (.tuple #[]) ∨ e = .panicked boom := by
  unfold RdPost at h
  cases r with
  | some x => exact .inl h.1
  | none => exact .inr h.1
set_option maxHeartbeats 3200000 in
theorem ask1_over (wp : World) (P M fb : Nat) (A : Option Addr) (c : Nat) (bs : List UInt8) (hst : RdSt (wp.alloc (.cells #[.bool false] 4)) (wp.alloc (.cells #[.bool false] 4)) P M 33 A c bs #[.int .i64 1, .int .u32 0, .int .i64 0, .slice none 0 0, .int .i64 0, .int .i64 0, .int .i64 0, .int .i64 0, .int .i64 0, .int .i64 0, .int .u32 0, .int .i64 0, .int .i64 0, .int .i64 0, .int .i64 0, .int .i64 0, .int .i64 0]) (hF : Blk wp fb 102 #[.func (.func 48) #[] #[], .func (.func 50) #[] #[]]) (hP : P < wp.heap.size) (hM : M < wp.heap.size) (hfP : fb ≠ P) (hfM : fb ≠ M) :
    Calls Try.prog 30 #[.pointer (some ⟨P, 0, none⟩), .pointer (some ⟨M, 0, none⟩), .slice (some ⟨fb, 0, none⟩) 2 2] wp fun e w' =>
      ((bs.length = 5) ∧ e = .returned (.bool false) ∧ ∃ W, Blk W M 33 #[.int .i64 1, .int .u32 (beN (bs.take 4) : Int), .int .i64 (beN ((bs.drop 4).take 1) : Int), .slice none 0 0, .int .i64 0, .int .i64 0, .int .i64 0, .int .i64 0, .int .i64 0, .int .i64 0, .int .u32 0, .int .i64 0, .int .i64 0, .int .i64 0, .int .i64 0, .int .i64 0, .int .i64 0] ∧ Chg (fun i => i = P ∨ i = M) (wp.alloc (.cells #[.bool false] 4)) W ∧ w' = W.setCell ⟨wp.heap.size, 0, none⟩ (.bool false)) ∨
      (¬ (bs.length = 5) ∧ e = .returned (.bool true) ∧ ∃ W, Chg (fun i => i = P ∨ i = M) (wp.alloc (.cells #[.bool false] 4)) W ∧ w' = (W.alloc (.cells #[] 128)).setCell ⟨wp.heap.size, 0, none⟩ (.bool true)) := by
  have chgE : ∀ W, Chg (fun i => i = P ∨ i = M) (wp.alloc (.cells #[.bool false] 4)) W → W.cell? ⟨wp.heap.size, 0, none⟩ = some (.bool false) ∧ W.frozen? ⟨wp.heap.size, 0, none⟩ = false := fun W hc => by
    have hb : Blk W wp.heap.size 4 #[.bool false] := (Blk.last wp _ _ rfl).chg hc (by omega)
    exact ⟨(hb.cell 0).trans rfl, hb.frozen 0⟩
  have chgQ : ∀ i W, ((i = 0 ∧ 0 ≤ bs.length ∧ ∃ A' c', RdSt (wp.alloc (.cells #[.bool false] 4)) W P M 33 A' c' bs #[.int .i64 1, .int .u32 0, .int .i64 0, .slice none 0 0, .int .i64 0, .int .i64 0, .int .i64 0, .int .i64 0, .int .i64 0, .int .i64 0, .int .u32 0, .int .i64 0, .int .i64 0, .int .i64 0, .int .i64 0, .int .i64 0, .int .i64 0]) ∨ (i = 1 ∧ 4 ≤ bs.length ∧ ∃ A' c', RdSt (wp.alloc (.cells #[.bool false] 4)) W P M 33 A' c' (bs.drop 4) #[.int .i64 1, .int .u32 (beN (bs.take 4) : Int), .int .i64 0, .slice none 0 0, .int .i64 0, .int .i64 0, .int .i64 0, .int .i64 0, .int .i64 0, .int .i64 0, .int .u32 0, .int .i64 0, .int .i64 0, .int .i64 0, .int .i64 0, .int .i64 0, .int .i64 0]) ∨ (i = 2 ∧ 5 ≤ bs.length ∧ ∃ A' c', RdSt (wp.alloc (.cells #[.bool false] 4)) W P M 33 A' c' (bs.drop 5) #[.int .i64 1, .int .u32 (beN (bs.take 4) : Int), .int .i64 (beN ((bs.drop 4).take 1) : Int), .slice none 0 0, .int .i64 0, .int .i64 0, .int .i64 0, .int .i64 0, .int .i64 0, .int .i64 0, .int .u32 0, .int .i64 0, .int .i64 0, .int .i64 0, .int .i64 0, .int .i64 0, .int .i64 0])) → Chg (fun i => i = P ∨ i = M) (wp.alloc (.cells #[.bool false] 4)) W := fun i W hq => by
    rcases hq with ⟨rfl, hl, A', c', hq⟩ | ⟨rfl, hl, A', c', hq⟩ | ⟨rfl, hl, A', c', hq⟩ <;> exact hq.chg
  refine (overQ_gen wp P M fb 0 2 [48, 50]
    (fun i W => (i = 0 ∧ 0 ≤ bs.length ∧ ∃ A' c', RdSt (wp.alloc (.cells #[.bool false] 4)) W P M 33 A' c' bs #[.int .i64 1, .int .u32 0, .int .i64 0, .slice none 0 0, .int .i64 0, .int .i64 0, .int .i64 0, .int .i64 0, .int .i64 0, .int .i64 0, .int .u32 0, .int .i64 0, .int .i64 0, .int .i64 0, .int .i64 0, .int .i64 0, .int .i64 0]) ∨ (i = 1 ∧ 4 ≤ bs.length ∧ ∃ A' c', RdSt (wp.alloc (.cells #[.bool false] 4)) W P M 33 A' c' (bs.drop 4) #[.int .i64 1, .int .u32 (beN (bs.take 4) : Int), .int .i64 0, .slice none 0 0, .int .i64 0, .int .i64 0, .int .i64 0, .int .i64 0, .int .i64 0, .int .i64 0, .int .u32 0, .int .i64 0, .int .i64 0, .int .i64 0, .int .i64 0, .int .i64 0, .int .i64 0]) ∨ (i = 2 ∧ 5 ≤ bs.length ∧ ∃ A' c', RdSt (wp.alloc (.cells #[.bool false] 4)) W P M 33 A' c' (bs.drop 5) #[.int .i64 1, .int .u32 (beN (bs.take 4) : Int), .int .i64 (beN ((bs.drop 4).take 1) : Int), .slice none 0 0, .int .i64 0, .int .i64 0, .int .i64 0, .int .i64 0, .int .i64 0, .int .i64 0, .int .u32 0, .int .i64 0, .int .i64 0, .int .i64 0, .int .i64 0, .int .i64 0, .int .i64 0]))
    (fun W => ¬ (bs.length = 5) ∧ Chg (fun i => i = P ∨ i = M) (wp.alloc (.cells #[.bool false] 4)) W)
    ?_ ?_ ?_ (fun i W hq => chgE W (chgQ i W hq)) (fun W hR => chgE W hR.2) ?_ ?_ (by simp)).mono ?_
  · intro i h args W
    have : i = 0 ∨ i = 1 := by simp at h; omega
    rcases this with rfl | rfl
    · exact enters_of Try.func48 (by kernel_rfl) rfl args W
    · exact enters_of Try.func50 (by kernel_rfl) rfl args W
  · intro i W hq j h
    have hb : Blk W fb 102 #[.func (.func 48) #[] #[], .func (.func 50) #[] #[]] := (hF.alloc _).chg (chgQ i W hq) (by omega)
    have : j = 0 ∨ j = 1 := by simp at h; omega
    rcases this with rfl | rfl
    · exact (hb.cell 0).trans rfl
    · exact (hb.cell 1).trans rfl
  · exact .inl ⟨rfl, Nat.zero_le _, A, c, hst⟩
  · intro i h W hq
    rcases hq with ⟨rfl, hl, A', c', hq⟩ | ⟨rfl, hl, A', c', hq⟩ | ⟨rfl, hl, A', c', hq⟩
    · refine (asks1_of W P M _ (fun e w' h => rdPost_two h) (word_any _ W P M 33 A' c' bs _ 1 0 hq rfl)).mono fun e w' h => ?_
      by_cases hk : 4 ≤ bs.length
      · rw [if_pos hk] at h
        obtain ⟨h1, A2, c2, h4⟩ := h
        skip
        have hk' : 4 ≤ bs.length := by have := hk; omega
        exact .inl ⟨h1, .inr (.inl ⟨rfl, hk', A2, c2, h4⟩)⟩
      · rw [if_neg hk] at h
        exact .inr ⟨h.1, fun q => hk (by omega), h.2⟩
    · refine (asks2_of W P M _ (fun e w' h => rdPost_two h) (small_any _ W P M 33 A' c' (bs.drop 4) _ 2 0 hq rfl)).mono fun e w' h => ?_
      by_cases hk : 1 ≤ (bs.drop 4).length
      · rw [if_pos hk] at h
        obtain ⟨h1, A2, c2, h4⟩ := h
        rw [List.drop_drop] at h4
        have hk' : 5 ≤ bs.length := by have := hk; simp at this; omega
        exact .inl ⟨h1, .inr (.inr (⟨rfl, hk', A2, c2, h4⟩))⟩
      · rw [if_neg hk] at h
        exact .inr ⟨h.1, fun q => hk (by simp; omega), h.2⟩
    · simp at h
  · intro W hq
    rcases hq with ⟨h, _⟩ | ⟨h, _⟩ | ⟨_, hl, A', c', hq⟩
    · simp at h
    · simp at h
    · refine ⟨A', (bs.drop 5).length, c', (hq.pen.cell 0).trans rfl, .inr ⟨(hq.pen.cell 1).trans rfl, fun hm => ⟨fun q => ?_, hq.chg⟩⟩⟩
      simp at hm
      omega
  · intro e w' h
    rcases h with ⟨h1, W, A2, m, c2, hq, p0, p1, hw⟩ | ⟨h1, W, hR, hw⟩
    · rcases hq with ⟨h, _⟩ | ⟨h, _⟩ | ⟨_, hl, A', c', hq⟩
      · simp at h
      · simp at h
      · have hp1 := (hq.pen.cell 1).trans (show #[Value.slice A' (bs.drop 5).length c', Value.bool true][1]? = some (.bool true) from rfl)
        have hp0 := (hq.pen.cell 0).trans (show #[Value.slice A' (bs.drop 5).length c', Value.bool true][0]? = some (.slice A' (bs.drop 5).length c') from rfl)
        rw [hp0] at p0
        injection p0 with p0
        injection p0 with _ p0 _
        have hm : m = 0 := p1.elim (fun q => by rw [hp1] at q; injection q with q; injection q with q; cases q) id
        rw [hm] at p0
        simp at p0
        exact .inl ⟨by omega, h1, W, hq.msg, hq.chg, hw⟩
    · exact .inr ⟨hR.1, h1, W, hR.2, hw⟩
set_option maxHeartbeats 3200000 in
theorem ask3_over (wp : World) (P M fb : Nat) (A : Option Addr) (c : Nat) (bs : List UInt8) (hst : RdSt (wp.alloc (.cells #[.bool false] 4)) (wp.alloc (.cells #[.bool false] 4)) P M 33 A c bs #[.int .i64 3, .int .u32 0, .int .i64 0, .slice none 0 0, .int .i64 0, .int .i64 0, .int .i64 0, .int .i64 0, .int .i64 0, .int .i64 0, .int .u32 0, .int .i64 0, .int .i64 0, .int .i64 0, .int .i64 0, .int .i64 0, .int .i64 0]) (hF : Blk wp fb 102 #[.func (.func 48) #[] #[], .func (.func 54) #[] #[]]) (hP : P < wp.heap.size) (hM : M < wp.heap.size) (hfP : fb ≠ P) (hfM : fb ≠ M) :
    Calls Try.prog 30 #[.pointer (some ⟨P, 0, none⟩), .pointer (some ⟨M, 0, none⟩), .slice (some ⟨fb, 0, none⟩) 2 2] wp fun e w' =>
      ((bs.length = 22) ∧ e = .returned (.bool false) ∧ ∃ W, Blk W M 33 #[.int .i64 3, .int .u32 (beN (bs.take 4) : Int), .int .i64 0, .slice none 0 0, .int .i64 (s64 (beN ((bs.drop 4).take 8))), .int .i64 0, .int .i64 0, .int .i64 (beN ((bs.drop 12).take 1) : Int), .int .i64 (beN ((bs.drop 13).take 1) : Int), .int .i64 (s64 (beN ((bs.drop 14).take 8))), .int .u32 0, .int .i64 0, .int .i64 0, .int .i64 0, .int .i64 0, .int .i64 0, .int .i64 0] ∧ Chg (fun i => i = P ∨ i = M) (wp.alloc (.cells #[.bool false] 4)) W ∧ w' = W.setCell ⟨wp.heap.size, 0, none⟩ (.bool false)) ∨
      (¬ (bs.length = 22) ∧ e = .returned (.bool true) ∧ ∃ W, Chg (fun i => i = P ∨ i = M) (wp.alloc (.cells #[.bool false] 4)) W ∧ w' = (W.alloc (.cells #[] 128)).setCell ⟨wp.heap.size, 0, none⟩ (.bool true)) := by
  have chgE : ∀ W, Chg (fun i => i = P ∨ i = M) (wp.alloc (.cells #[.bool false] 4)) W → W.cell? ⟨wp.heap.size, 0, none⟩ = some (.bool false) ∧ W.frozen? ⟨wp.heap.size, 0, none⟩ = false := fun W hc => by
    have hb : Blk W wp.heap.size 4 #[.bool false] := (Blk.last wp _ _ rfl).chg hc (by omega)
    exact ⟨(hb.cell 0).trans rfl, hb.frozen 0⟩
  have chgQ : ∀ i W, ((i = 0 ∧ 0 ≤ bs.length ∧ ∃ A' c', RdSt (wp.alloc (.cells #[.bool false] 4)) W P M 33 A' c' bs #[.int .i64 3, .int .u32 0, .int .i64 0, .slice none 0 0, .int .i64 0, .int .i64 0, .int .i64 0, .int .i64 0, .int .i64 0, .int .i64 0, .int .u32 0, .int .i64 0, .int .i64 0, .int .i64 0, .int .i64 0, .int .i64 0, .int .i64 0]) ∨ (i = 1 ∧ 4 ≤ bs.length ∧ ∃ A' c', RdSt (wp.alloc (.cells #[.bool false] 4)) W P M 33 A' c' (bs.drop 4) #[.int .i64 3, .int .u32 (beN (bs.take 4) : Int), .int .i64 0, .slice none 0 0, .int .i64 0, .int .i64 0, .int .i64 0, .int .i64 0, .int .i64 0, .int .i64 0, .int .u32 0, .int .i64 0, .int .i64 0, .int .i64 0, .int .i64 0, .int .i64 0, .int .i64 0]) ∨ (i = 2 ∧ 22 ≤ bs.length ∧ ∃ A' c', RdSt (wp.alloc (.cells #[.bool false] 4)) W P M 33 A' c' (bs.drop 22) #[.int .i64 3, .int .u32 (beN (bs.take 4) : Int), .int .i64 0, .slice none 0 0, .int .i64 (s64 (beN ((bs.drop 4).take 8))), .int .i64 0, .int .i64 0, .int .i64 (beN ((bs.drop 12).take 1) : Int), .int .i64 (beN ((bs.drop 13).take 1) : Int), .int .i64 (s64 (beN ((bs.drop 14).take 8))), .int .u32 0, .int .i64 0, .int .i64 0, .int .i64 0, .int .i64 0, .int .i64 0, .int .i64 0])) → Chg (fun i => i = P ∨ i = M) (wp.alloc (.cells #[.bool false] 4)) W := fun i W hq => by
    rcases hq with ⟨rfl, hl, A', c', hq⟩ | ⟨rfl, hl, A', c', hq⟩ | ⟨rfl, hl, A', c', hq⟩ <;> exact hq.chg
  refine (overQ_gen wp P M fb 0 2 [48, 54]
    (fun i W => (i = 0 ∧ 0 ≤ bs.length ∧ ∃ A' c', RdSt (wp.alloc (.cells #[.bool false] 4)) W P M 33 A' c' bs #[.int .i64 3, .int .u32 0, .int .i64 0, .slice none 0 0, .int .i64 0, .int .i64 0, .int .i64 0, .int .i64 0, .int .i64 0, .int .i64 0, .int .u32 0, .int .i64 0, .int .i64 0, .int .i64 0, .int .i64 0, .int .i64 0, .int .i64 0]) ∨ (i = 1 ∧ 4 ≤ bs.length ∧ ∃ A' c', RdSt (wp.alloc (.cells #[.bool false] 4)) W P M 33 A' c' (bs.drop 4) #[.int .i64 3, .int .u32 (beN (bs.take 4) : Int), .int .i64 0, .slice none 0 0, .int .i64 0, .int .i64 0, .int .i64 0, .int .i64 0, .int .i64 0, .int .i64 0, .int .u32 0, .int .i64 0, .int .i64 0, .int .i64 0, .int .i64 0, .int .i64 0, .int .i64 0]) ∨ (i = 2 ∧ 22 ≤ bs.length ∧ ∃ A' c', RdSt (wp.alloc (.cells #[.bool false] 4)) W P M 33 A' c' (bs.drop 22) #[.int .i64 3, .int .u32 (beN (bs.take 4) : Int), .int .i64 0, .slice none 0 0, .int .i64 (s64 (beN ((bs.drop 4).take 8))), .int .i64 0, .int .i64 0, .int .i64 (beN ((bs.drop 12).take 1) : Int), .int .i64 (beN ((bs.drop 13).take 1) : Int), .int .i64 (s64 (beN ((bs.drop 14).take 8))), .int .u32 0, .int .i64 0, .int .i64 0, .int .i64 0, .int .i64 0, .int .i64 0, .int .i64 0]))
    (fun W => ¬ (bs.length = 22) ∧ Chg (fun i => i = P ∨ i = M) (wp.alloc (.cells #[.bool false] 4)) W)
    ?_ ?_ ?_ (fun i W hq => chgE W (chgQ i W hq)) (fun W hR => chgE W hR.2) ?_ ?_ (by simp)).mono ?_
  · intro i h args W
    have : i = 0 ∨ i = 1 := by simp at h; omega
    rcases this with rfl | rfl
    · exact enters_of Try.func48 (by kernel_rfl) rfl args W
    · exact enters_of Try.func54 (by kernel_rfl) rfl args W
  · intro i W hq j h
    have hb : Blk W fb 102 #[.func (.func 48) #[] #[], .func (.func 54) #[] #[]] := (hF.alloc _).chg (chgQ i W hq) (by omega)
    have : j = 0 ∨ j = 1 := by simp at h; omega
    rcases this with rfl | rfl
    · exact (hb.cell 0).trans rfl
    · exact (hb.cell 1).trans rfl
  · exact .inl ⟨rfl, Nat.zero_le _, A, c, hst⟩
  · intro i h W hq
    rcases hq with ⟨rfl, hl, A', c', hq⟩ | ⟨rfl, hl, A', c', hq⟩ | ⟨rfl, hl, A', c', hq⟩
    · refine (asks1_of W P M _ (fun e w' h => rdPost_two h) (word_any _ W P M 33 A' c' bs _ 1 0 hq rfl)).mono fun e w' h => ?_
      by_cases hk : 4 ≤ bs.length
      · rw [if_pos hk] at h
        obtain ⟨h1, A2, c2, h4⟩ := h
        skip
        have hk' : 4 ≤ bs.length := by have := hk; omega
        exact .inl ⟨h1, .inr (.inl ⟨rfl, hk', A2, c2, h4⟩)⟩
      · rw [if_neg hk] at h
        exact .inr ⟨h.1, fun q => hk (by omega), h.2⟩
    · refine (asks4_of W P M _ (fun e w' h => rdPost_two h) (asked_any _ W P M 33 A' c' (bs.drop 4) _ 4 0 0 0 0 hq rfl rfl rfl rfl rfl rfl)).mono fun e w' h => ?_
      by_cases hk : 18 ≤ (bs.drop 4).length
      · rw [if_pos hk] at h
        obtain ⟨h1, A2, c2, h4⟩ := h
        rw [List.drop_drop] at h4
        have hk' : 22 ≤ bs.length := by have := hk; simp at this; omega
        exact .inl ⟨h1, .inr (.inr (⟨rfl, hk', A2, c2, by simpa [pointC, List.drop_drop] using h4⟩))⟩
      · rw [if_neg hk] at h
        exact .inr ⟨h.1, fun q => hk (by simp; omega), h.2⟩
    · simp at h
  · intro W hq
    rcases hq with ⟨h, _⟩ | ⟨h, _⟩ | ⟨_, hl, A', c', hq⟩
    · simp at h
    · simp at h
    · refine ⟨A', (bs.drop 22).length, c', (hq.pen.cell 0).trans rfl, .inr ⟨(hq.pen.cell 1).trans rfl, fun hm => ⟨fun q => ?_, hq.chg⟩⟩⟩
      simp at hm
      omega
  · intro e w' h
    rcases h with ⟨h1, W, A2, m, c2, hq, p0, p1, hw⟩ | ⟨h1, W, hR, hw⟩
    · rcases hq with ⟨h, _⟩ | ⟨h, _⟩ | ⟨_, hl, A', c', hq⟩
      · simp at h
      · simp at h
      · have hp1 := (hq.pen.cell 1).trans (show #[Value.slice A' (bs.drop 22).length c', Value.bool true][1]? = some (.bool true) from rfl)
        have hp0 := (hq.pen.cell 0).trans (show #[Value.slice A' (bs.drop 22).length c', Value.bool true][0]? = some (.slice A' (bs.drop 22).length c') from rfl)
        rw [hp0] at p0
        injection p0 with p0
        injection p0 with _ p0 _
        have hm : m = 0 := p1.elim (fun q => by rw [hp1] at q; injection q with q; injection q with q; cases q) id
        rw [hm] at p0
        simp at p0
        exact .inl ⟨by omega, h1, W, hq.msg, hq.chg, hw⟩
    · exact .inr ⟨hR.1, h1, W, hR.2, hw⟩
set_option maxHeartbeats 3200000 in
theorem ask4_over (wp : World) (P M fb : Nat) (A : Option Addr) (c : Nat) (bs : List UInt8) (hst : RdSt (wp.alloc (.cells #[.bool false] 4)) (wp.alloc (.cells #[.bool false] 4)) P M 33 A c bs #[.int .i64 4, .int .u32 0, .int .i64 0, .slice none 0 0, .int .i64 0, .int .i64 0, .int .i64 0, .int .i64 0, .int .i64 0, .int .i64 0, .int .u32 0, .int .i64 0, .int .i64 0, .int .i64 0, .int .i64 0, .int .i64 0, .int .i64 0]) (hF : Blk wp fb 102 #[.func (.func 48) #[] #[], .func (.func 56) #[] #[], .func (.func 57) #[] #[]]) (hP : P < wp.heap.size) (hM : M < wp.heap.size) (hfP : fb ≠ P) (hfM : fb ≠ M) :
    Calls Try.prog 30 #[.pointer (some ⟨P, 0, none⟩), .pointer (some ⟨M, 0, none⟩), .slice (some ⟨fb, 0, none⟩) 3 3] wp fun e w' =>
      ((bs.length = 18) ∧ e = .returned (.bool false) ∧ ∃ W, Blk W M 33 #[.int .i64 4, .int .u32 (beN (bs.take 4) : Int), .int .i64 0, .slice none 0 0, .int .i64 0, .int .i64 0, .int .i64 0, .int .i64 0, .int .i64 0, .int .i64 0, .int .u32 (beN ((bs.drop 4).take 4) : Int), .int .i64 (beN ((bs.drop 8).take 1) : Int), .int .i64 (kindOf (beN ((bs.drop 9).take 1))), .int .i64 (s64 (beN ((bs.drop 10).take 8))), .int .i64 0, .int .i64 0, .int .i64 0] ∧ Chg (fun i => i = P ∨ i = M) (wp.alloc (.cells #[.bool false] 4)) W ∧ w' = W.setCell ⟨wp.heap.size, 0, none⟩ (.bool false)) ∨
      (¬ (bs.length = 18) ∧ e = .returned (.bool true) ∧ ∃ W, Chg (fun i => i = P ∨ i = M) (wp.alloc (.cells #[.bool false] 4)) W ∧ w' = (W.alloc (.cells #[] 128)).setCell ⟨wp.heap.size, 0, none⟩ (.bool true)) := by
  have chgE : ∀ W, Chg (fun i => i = P ∨ i = M) (wp.alloc (.cells #[.bool false] 4)) W → W.cell? ⟨wp.heap.size, 0, none⟩ = some (.bool false) ∧ W.frozen? ⟨wp.heap.size, 0, none⟩ = false := fun W hc => by
    have hb : Blk W wp.heap.size 4 #[.bool false] := (Blk.last wp _ _ rfl).chg hc (by omega)
    exact ⟨(hb.cell 0).trans rfl, hb.frozen 0⟩
  have chgQ : ∀ i W, ((i = 0 ∧ 0 ≤ bs.length ∧ ∃ A' c', RdSt (wp.alloc (.cells #[.bool false] 4)) W P M 33 A' c' bs #[.int .i64 4, .int .u32 0, .int .i64 0, .slice none 0 0, .int .i64 0, .int .i64 0, .int .i64 0, .int .i64 0, .int .i64 0, .int .i64 0, .int .u32 0, .int .i64 0, .int .i64 0, .int .i64 0, .int .i64 0, .int .i64 0, .int .i64 0]) ∨ (i = 1 ∧ 4 ≤ bs.length ∧ ∃ A' c', RdSt (wp.alloc (.cells #[.bool false] 4)) W P M 33 A' c' (bs.drop 4) #[.int .i64 4, .int .u32 (beN (bs.take 4) : Int), .int .i64 0, .slice none 0 0, .int .i64 0, .int .i64 0, .int .i64 0, .int .i64 0, .int .i64 0, .int .i64 0, .int .u32 0, .int .i64 0, .int .i64 0, .int .i64 0, .int .i64 0, .int .i64 0, .int .i64 0]) ∨ (i = 2 ∧ 8 ≤ bs.length ∧ ∃ A' c', RdSt (wp.alloc (.cells #[.bool false] 4)) W P M 33 A' c' (bs.drop 8) #[.int .i64 4, .int .u32 (beN (bs.take 4) : Int), .int .i64 0, .slice none 0 0, .int .i64 0, .int .i64 0, .int .i64 0, .int .i64 0, .int .i64 0, .int .i64 0, .int .u32 (beN ((bs.drop 4).take 4) : Int), .int .i64 0, .int .i64 0, .int .i64 0, .int .i64 0, .int .i64 0, .int .i64 0]) ∨ (i = 3 ∧ 18 ≤ bs.length ∧ ∃ A' c', RdSt (wp.alloc (.cells #[.bool false] 4)) W P M 33 A' c' (bs.drop 18) #[.int .i64 4, .int .u32 (beN (bs.take 4) : Int), .int .i64 0, .slice none 0 0, .int .i64 0, .int .i64 0, .int .i64 0, .int .i64 0, .int .i64 0, .int .i64 0, .int .u32 (beN ((bs.drop 4).take 4) : Int), .int .i64 (beN ((bs.drop 8).take 1) : Int), .int .i64 (kindOf (beN ((bs.drop 9).take 1))), .int .i64 (s64 (beN ((bs.drop 10).take 8))), .int .i64 0, .int .i64 0, .int .i64 0])) → Chg (fun i => i = P ∨ i = M) (wp.alloc (.cells #[.bool false] 4)) W := fun i W hq => by
    rcases hq with ⟨rfl, hl, A', c', hq⟩ | ⟨rfl, hl, A', c', hq⟩ | ⟨rfl, hl, A', c', hq⟩ | ⟨rfl, hl, A', c', hq⟩ <;> exact hq.chg
  refine (overQ_gen wp P M fb 0 3 [48, 56, 57]
    (fun i W => (i = 0 ∧ 0 ≤ bs.length ∧ ∃ A' c', RdSt (wp.alloc (.cells #[.bool false] 4)) W P M 33 A' c' bs #[.int .i64 4, .int .u32 0, .int .i64 0, .slice none 0 0, .int .i64 0, .int .i64 0, .int .i64 0, .int .i64 0, .int .i64 0, .int .i64 0, .int .u32 0, .int .i64 0, .int .i64 0, .int .i64 0, .int .i64 0, .int .i64 0, .int .i64 0]) ∨ (i = 1 ∧ 4 ≤ bs.length ∧ ∃ A' c', RdSt (wp.alloc (.cells #[.bool false] 4)) W P M 33 A' c' (bs.drop 4) #[.int .i64 4, .int .u32 (beN (bs.take 4) : Int), .int .i64 0, .slice none 0 0, .int .i64 0, .int .i64 0, .int .i64 0, .int .i64 0, .int .i64 0, .int .i64 0, .int .u32 0, .int .i64 0, .int .i64 0, .int .i64 0, .int .i64 0, .int .i64 0, .int .i64 0]) ∨ (i = 2 ∧ 8 ≤ bs.length ∧ ∃ A' c', RdSt (wp.alloc (.cells #[.bool false] 4)) W P M 33 A' c' (bs.drop 8) #[.int .i64 4, .int .u32 (beN (bs.take 4) : Int), .int .i64 0, .slice none 0 0, .int .i64 0, .int .i64 0, .int .i64 0, .int .i64 0, .int .i64 0, .int .i64 0, .int .u32 (beN ((bs.drop 4).take 4) : Int), .int .i64 0, .int .i64 0, .int .i64 0, .int .i64 0, .int .i64 0, .int .i64 0]) ∨ (i = 3 ∧ 18 ≤ bs.length ∧ ∃ A' c', RdSt (wp.alloc (.cells #[.bool false] 4)) W P M 33 A' c' (bs.drop 18) #[.int .i64 4, .int .u32 (beN (bs.take 4) : Int), .int .i64 0, .slice none 0 0, .int .i64 0, .int .i64 0, .int .i64 0, .int .i64 0, .int .i64 0, .int .i64 0, .int .u32 (beN ((bs.drop 4).take 4) : Int), .int .i64 (beN ((bs.drop 8).take 1) : Int), .int .i64 (kindOf (beN ((bs.drop 9).take 1))), .int .i64 (s64 (beN ((bs.drop 10).take 8))), .int .i64 0, .int .i64 0, .int .i64 0]))
    (fun W => ¬ (bs.length = 18) ∧ Chg (fun i => i = P ∨ i = M) (wp.alloc (.cells #[.bool false] 4)) W)
    ?_ ?_ ?_ (fun i W hq => chgE W (chgQ i W hq)) (fun W hR => chgE W hR.2) ?_ ?_ (by simp)).mono ?_
  · intro i h args W
    have : i = 0 ∨ i = 1 ∨ i = 2 := by simp at h; omega
    rcases this with rfl | rfl | rfl
    · exact enters_of Try.func48 (by kernel_rfl) rfl args W
    · exact enters_of Try.func56 (by kernel_rfl) rfl args W
    · exact enters_of Try.func57 (by kernel_rfl) rfl args W
  · intro i W hq j h
    have hb : Blk W fb 102 #[.func (.func 48) #[] #[], .func (.func 56) #[] #[], .func (.func 57) #[] #[]] := (hF.alloc _).chg (chgQ i W hq) (by omega)
    have : j = 0 ∨ j = 1 ∨ j = 2 := by simp at h; omega
    rcases this with rfl | rfl | rfl
    · exact (hb.cell 0).trans rfl
    · exact (hb.cell 1).trans rfl
    · exact (hb.cell 2).trans rfl
  · exact .inl ⟨rfl, Nat.zero_le _, A, c, hst⟩
  · intro i h W hq
    rcases hq with ⟨rfl, hl, A', c', hq⟩ | ⟨rfl, hl, A', c', hq⟩ | ⟨rfl, hl, A', c', hq⟩ | ⟨rfl, hl, A', c', hq⟩
    · refine (asks1_of W P M _ (fun e w' h => rdPost_two h) (word_any _ W P M 33 A' c' bs _ 1 0 hq rfl)).mono fun e w' h => ?_
      by_cases hk : 4 ≤ bs.length
      · rw [if_pos hk] at h
        obtain ⟨h1, A2, c2, h4⟩ := h
        skip
        have hk' : 4 ≤ bs.length := by have := hk; omega
        exact .inl ⟨h1, .inr (.inl ⟨rfl, hk', A2, c2, h4⟩)⟩
      · rw [if_neg hk] at h
        exact .inr ⟨h.1, fun q => hk (by omega), h.2⟩
    · refine (asks5_of W P M _ (fun e w' h => rdPost_two h) (word_any _ W P M 33 A' c' (bs.drop 4) _ 10 0 hq rfl)).mono fun e w' h => ?_
      by_cases hk : 4 ≤ (bs.drop 4).length
      · rw [if_pos hk] at h
        obtain ⟨h1, A2, c2, h4⟩ := h
        rw [List.drop_drop] at h4
        have hk' : 8 ≤ bs.length := by have := hk; simp at this; omega
        exact .inl ⟨h1, .inr (.inr (.inl ⟨rfl, hk', A2, c2, h4⟩))⟩
      · rw [if_neg hk] at h
        exact .inr ⟨h.1, fun q => hk (by simp; omega), h.2⟩
    · refine (asks6_of W P M _ (fun e w' h => rdPost_two h) (point_any _ W P M 33 A' c' (bs.drop 8) _ 11 0 0 hq rfl rfl rfl (fun a ha => (hq.ap a ha).2.2))).mono fun e w' h => ?_
      by_cases hk : 10 ≤ (bs.drop 8).length
      · rw [if_pos hk] at h
        obtain ⟨h1, A2, c2, h4⟩ := h
        rw [List.drop_drop] at h4
        have hk' : 18 ≤ bs.length := by have := hk; simp at this; omega
        exact .inl ⟨h1, .inr (.inr (.inr (⟨rfl, hk', A2, c2, by simpa [pointC, List.drop_drop] using h4⟩)))⟩
      · rw [if_neg hk] at h
        exact .inr ⟨h.1, fun q => hk (by simp; omega), h.2⟩
    · simp at h
  · intro W hq
    rcases hq with ⟨h, _⟩ | ⟨h, _⟩ | ⟨h, _⟩ | ⟨_, hl, A', c', hq⟩
    · simp at h
    · simp at h
    · simp at h
    · refine ⟨A', (bs.drop 18).length, c', (hq.pen.cell 0).trans rfl, .inr ⟨(hq.pen.cell 1).trans rfl, fun hm => ⟨fun q => ?_, hq.chg⟩⟩⟩
      simp at hm
      omega
  · intro e w' h
    rcases h with ⟨h1, W, A2, m, c2, hq, p0, p1, hw⟩ | ⟨h1, W, hR, hw⟩
    · rcases hq with ⟨h, _⟩ | ⟨h, _⟩ | ⟨h, _⟩ | ⟨_, hl, A', c', hq⟩
      · simp at h
      · simp at h
      · simp at h
      · have hp1 := (hq.pen.cell 1).trans (show #[Value.slice A' (bs.drop 18).length c', Value.bool true][1]? = some (.bool true) from rfl)
        have hp0 := (hq.pen.cell 0).trans (show #[Value.slice A' (bs.drop 18).length c', Value.bool true][0]? = some (.slice A' (bs.drop 18).length c') from rfl)
        rw [hp0] at p0
        injection p0 with p0
        injection p0 with _ p0 _
        have hm : m = 0 := p1.elim (fun q => by rw [hp1] at q; injection q with q; injection q with q; cases q) id
        rw [hm] at p0
        simp at p0
        exact .inl ⟨by omega, h1, W, hq.msg, hq.chg, hw⟩
    · exact .inr ⟨hR.1, h1, W, hR.2, hw⟩
set_option maxHeartbeats 3200000 in
theorem ask5_over (wp : World) (P M fb : Nat) (A : Option Addr) (c : Nat) (bs : List UInt8) (hst : RdSt (wp.alloc (.cells #[.bool false] 4)) (wp.alloc (.cells #[.bool false] 4)) P M 33 A c bs #[.int .i64 5, .int .u32 0, .int .i64 0, .slice none 0 0, .int .i64 0, .int .i64 0, .int .i64 0, .int .i64 0, .int .i64 0, .int .i64 0, .int .u32 0, .int .i64 0, .int .i64 0, .int .i64 0, .int .i64 0, .int .i64 0, .int .i64 0]) (hF : Blk wp fb 102 #[.func (.func 48) #[] #[], .func (.func 56) #[] #[]]) (hP : P < wp.heap.size) (hM : M < wp.heap.size) (hfP : fb ≠ P) (hfM : fb ≠ M) :
    Calls Try.prog 30 #[.pointer (some ⟨P, 0, none⟩), .pointer (some ⟨M, 0, none⟩), .slice (some ⟨fb, 0, none⟩) 2 2] wp fun e w' =>
      ((bs.length = 8) ∧ e = .returned (.bool false) ∧ ∃ W, Blk W M 33 #[.int .i64 5, .int .u32 (beN (bs.take 4) : Int), .int .i64 0, .slice none 0 0, .int .i64 0, .int .i64 0, .int .i64 0, .int .i64 0, .int .i64 0, .int .i64 0, .int .u32 (beN ((bs.drop 4).take 4) : Int), .int .i64 0, .int .i64 0, .int .i64 0, .int .i64 0, .int .i64 0, .int .i64 0] ∧ Chg (fun i => i = P ∨ i = M) (wp.alloc (.cells #[.bool false] 4)) W ∧ w' = W.setCell ⟨wp.heap.size, 0, none⟩ (.bool false)) ∨
      (¬ (bs.length = 8) ∧ e = .returned (.bool true) ∧ ∃ W, Chg (fun i => i = P ∨ i = M) (wp.alloc (.cells #[.bool false] 4)) W ∧ w' = (W.alloc (.cells #[] 128)).setCell ⟨wp.heap.size, 0, none⟩ (.bool true)) := by
  have chgE : ∀ W, Chg (fun i => i = P ∨ i = M) (wp.alloc (.cells #[.bool false] 4)) W → W.cell? ⟨wp.heap.size, 0, none⟩ = some (.bool false) ∧ W.frozen? ⟨wp.heap.size, 0, none⟩ = false := fun W hc => by
    have hb : Blk W wp.heap.size 4 #[.bool false] := (Blk.last wp _ _ rfl).chg hc (by omega)
    exact ⟨(hb.cell 0).trans rfl, hb.frozen 0⟩
  have chgQ : ∀ i W, ((i = 0 ∧ 0 ≤ bs.length ∧ ∃ A' c', RdSt (wp.alloc (.cells #[.bool false] 4)) W P M 33 A' c' bs #[.int .i64 5, .int .u32 0, .int .i64 0, .slice none 0 0, .int .i64 0, .int .i64 0, .int .i64 0, .int .i64 0, .int .i64 0, .int .i64 0, .int .u32 0, .int .i64 0, .int .i64 0, .int .i64 0, .int .i64 0, .int .i64 0, .int .i64 0]) ∨ (i = 1 ∧ 4 ≤ bs.length ∧ ∃ A' c', RdSt (wp.alloc (.cells #[.bool false] 4)) W P M 33 A' c' (bs.drop 4) #[.int .i64 5, .int .u32 (beN (bs.take 4) : Int), .int .i64 0, .slice none 0 0, .int .i64 0, .int .i64 0, .int .i64 0, .int .i64 0, .int .i64 0, .int .i64 0, .int .u32 0, .int .i64 0, .int .i64 0, .int .i64 0, .int .i64 0, .int .i64 0, .int .i64 0]) ∨ (i = 2 ∧ 8 ≤ bs.length ∧ ∃ A' c', RdSt (wp.alloc (.cells #[.bool false] 4)) W P M 33 A' c' (bs.drop 8) #[.int .i64 5, .int .u32 (beN (bs.take 4) : Int), .int .i64 0, .slice none 0 0, .int .i64 0, .int .i64 0, .int .i64 0, .int .i64 0, .int .i64 0, .int .i64 0, .int .u32 (beN ((bs.drop 4).take 4) : Int), .int .i64 0, .int .i64 0, .int .i64 0, .int .i64 0, .int .i64 0, .int .i64 0])) → Chg (fun i => i = P ∨ i = M) (wp.alloc (.cells #[.bool false] 4)) W := fun i W hq => by
    rcases hq with ⟨rfl, hl, A', c', hq⟩ | ⟨rfl, hl, A', c', hq⟩ | ⟨rfl, hl, A', c', hq⟩ <;> exact hq.chg
  refine (overQ_gen wp P M fb 0 2 [48, 56]
    (fun i W => (i = 0 ∧ 0 ≤ bs.length ∧ ∃ A' c', RdSt (wp.alloc (.cells #[.bool false] 4)) W P M 33 A' c' bs #[.int .i64 5, .int .u32 0, .int .i64 0, .slice none 0 0, .int .i64 0, .int .i64 0, .int .i64 0, .int .i64 0, .int .i64 0, .int .i64 0, .int .u32 0, .int .i64 0, .int .i64 0, .int .i64 0, .int .i64 0, .int .i64 0, .int .i64 0]) ∨ (i = 1 ∧ 4 ≤ bs.length ∧ ∃ A' c', RdSt (wp.alloc (.cells #[.bool false] 4)) W P M 33 A' c' (bs.drop 4) #[.int .i64 5, .int .u32 (beN (bs.take 4) : Int), .int .i64 0, .slice none 0 0, .int .i64 0, .int .i64 0, .int .i64 0, .int .i64 0, .int .i64 0, .int .i64 0, .int .u32 0, .int .i64 0, .int .i64 0, .int .i64 0, .int .i64 0, .int .i64 0, .int .i64 0]) ∨ (i = 2 ∧ 8 ≤ bs.length ∧ ∃ A' c', RdSt (wp.alloc (.cells #[.bool false] 4)) W P M 33 A' c' (bs.drop 8) #[.int .i64 5, .int .u32 (beN (bs.take 4) : Int), .int .i64 0, .slice none 0 0, .int .i64 0, .int .i64 0, .int .i64 0, .int .i64 0, .int .i64 0, .int .i64 0, .int .u32 (beN ((bs.drop 4).take 4) : Int), .int .i64 0, .int .i64 0, .int .i64 0, .int .i64 0, .int .i64 0, .int .i64 0]))
    (fun W => ¬ (bs.length = 8) ∧ Chg (fun i => i = P ∨ i = M) (wp.alloc (.cells #[.bool false] 4)) W)
    ?_ ?_ ?_ (fun i W hq => chgE W (chgQ i W hq)) (fun W hR => chgE W hR.2) ?_ ?_ (by simp)).mono ?_
  · intro i h args W
    have : i = 0 ∨ i = 1 := by simp at h; omega
    rcases this with rfl | rfl
    · exact enters_of Try.func48 (by kernel_rfl) rfl args W
    · exact enters_of Try.func56 (by kernel_rfl) rfl args W
  · intro i W hq j h
    have hb : Blk W fb 102 #[.func (.func 48) #[] #[], .func (.func 56) #[] #[]] := (hF.alloc _).chg (chgQ i W hq) (by omega)
    have : j = 0 ∨ j = 1 := by simp at h; omega
    rcases this with rfl | rfl
    · exact (hb.cell 0).trans rfl
    · exact (hb.cell 1).trans rfl
  · exact .inl ⟨rfl, Nat.zero_le _, A, c, hst⟩
  · intro i h W hq
    rcases hq with ⟨rfl, hl, A', c', hq⟩ | ⟨rfl, hl, A', c', hq⟩ | ⟨rfl, hl, A', c', hq⟩
    · refine (asks1_of W P M _ (fun e w' h => rdPost_two h) (word_any _ W P M 33 A' c' bs _ 1 0 hq rfl)).mono fun e w' h => ?_
      by_cases hk : 4 ≤ bs.length
      · rw [if_pos hk] at h
        obtain ⟨h1, A2, c2, h4⟩ := h
        skip
        have hk' : 4 ≤ bs.length := by have := hk; omega
        exact .inl ⟨h1, .inr (.inl ⟨rfl, hk', A2, c2, h4⟩)⟩
      · rw [if_neg hk] at h
        exact .inr ⟨h.1, fun q => hk (by omega), h.2⟩
    · refine (asks5_of W P M _ (fun e w' h => rdPost_two h) (word_any _ W P M 33 A' c' (bs.drop 4) _ 10 0 hq rfl)).mono fun e w' h => ?_
      by_cases hk : 4 ≤ (bs.drop 4).length
      · rw [if_pos hk] at h
        obtain ⟨h1, A2, c2, h4⟩ := h
        rw [List.drop_drop] at h4
        have hk' : 8 ≤ bs.length := by have := hk; simp at this; omega
        exact .inl ⟨h1, .inr (.inr (⟨rfl, hk', A2, c2, h4⟩))⟩
      · rw [if_neg hk] at h
        exact .inr ⟨h.1, fun q => hk (by simp; omega), h.2⟩
    · simp at h
  · intro W hq
    rcases hq with ⟨h, _⟩ | ⟨h, _⟩ | ⟨_, hl, A', c', hq⟩
    · simp at h
    · simp at h
    · refine ⟨A', (bs.drop 8).length, c', (hq.pen.cell 0).trans rfl, .inr ⟨(hq.pen.cell 1).trans rfl, fun hm => ⟨fun q => ?_, hq.chg⟩⟩⟩
      simp at hm
      omega
  · intro e w' h
    rcases h with ⟨h1, W, A2, m, c2, hq, p0, p1, hw⟩ | ⟨h1, W, hR, hw⟩
    · rcases hq with ⟨h, _⟩ | ⟨h, _⟩ | ⟨_, hl, A', c', hq⟩
      · simp at h
      · simp at h
      · have hp1 := (hq.pen.cell 1).trans (show #[Value.slice A' (bs.drop 8).length c', Value.bool true][1]? = some (.bool true) from rfl)
        have hp0 := (hq.pen.cell 0).trans (show #[Value.slice A' (bs.drop 8).length c', Value.bool true][0]? = some (.slice A' (bs.drop 8).length c') from rfl)
        rw [hp0] at p0
        injection p0 with p0
        injection p0 with _ p0 _
        have hm : m = 0 := p1.elim (fun q => by rw [hp1] at q; injection q with q; injection q with q; cases q) id
        rw [hm] at p0
        simp at p0
        exact .inl ⟨by omega, h1, W, hq.msg, hq.chg, hw⟩
    · exact .inr ⟨hR.1, h1, W, hR.2, hw⟩
set_option maxHeartbeats 3200000 in
theorem ask6_over (wp : World) (P M fb : Nat) (A : Option Addr) (c : Nat) (bs : List UInt8) (hst : RdSt (wp.alloc (.cells #[.bool false] 4)) (wp.alloc (.cells #[.bool false] 4)) P M 33 A c bs #[.int .i64 6, .int .u32 0, .int .i64 0, .slice none 0 0, .int .i64 0, .int .i64 0, .int .i64 0, .int .i64 0, .int .i64 0, .int .i64 0, .int .u32 0, .int .i64 0, .int .i64 0, .int .i64 0, .int .i64 0, .int .i64 0, .int .i64 0]) (hF : Blk wp fb 102 #[.func (.func 48) #[] #[], .func (.func 59) #[] #[]]) (hP : P < wp.heap.size) (hM : M < wp.heap.size) (hfP : fb ≠ P) (hfM : fb ≠ M) :
    Calls Try.prog 30 #[.pointer (some ⟨P, 0, none⟩), .pointer (some ⟨M, 0, none⟩), .slice (some ⟨fb, 0, none⟩) 2 2] wp fun e w' =>
      ((bs.length = 5) ∧ e = .returned (.bool false) ∧ ∃ W, Blk W M 33 #[.int .i64 6, .int .u32 (beN (bs.take 4) : Int), .int .i64 0, .slice none 0 0, .int .i64 0, .int .i64 0, .int .i64 0, .int .i64 0, .int .i64 0, .int .i64 0, .int .u32 0, .int .i64 0, .int .i64 0, .int .i64 0, .int .i64 (beN ((bs.drop 4).take 1) : Int), .int .i64 0, .int .i64 0] ∧ Chg (fun i => i = P ∨ i = M) (wp.alloc (.cells #[.bool false] 4)) W ∧ w' = W.setCell ⟨wp.heap.size, 0, none⟩ (.bool false)) ∨
      (¬ (bs.length = 5) ∧ e = .returned (.bool true) ∧ ∃ W, Chg (fun i => i = P ∨ i = M) (wp.alloc (.cells #[.bool false] 4)) W ∧ w' = (W.alloc (.cells #[] 128)).setCell ⟨wp.heap.size, 0, none⟩ (.bool true)) := by
  have chgE : ∀ W, Chg (fun i => i = P ∨ i = M) (wp.alloc (.cells #[.bool false] 4)) W → W.cell? ⟨wp.heap.size, 0, none⟩ = some (.bool false) ∧ W.frozen? ⟨wp.heap.size, 0, none⟩ = false := fun W hc => by
    have hb : Blk W wp.heap.size 4 #[.bool false] := (Blk.last wp _ _ rfl).chg hc (by omega)
    exact ⟨(hb.cell 0).trans rfl, hb.frozen 0⟩
  have chgQ : ∀ i W, ((i = 0 ∧ 0 ≤ bs.length ∧ ∃ A' c', RdSt (wp.alloc (.cells #[.bool false] 4)) W P M 33 A' c' bs #[.int .i64 6, .int .u32 0, .int .i64 0, .slice none 0 0, .int .i64 0, .int .i64 0, .int .i64 0, .int .i64 0, .int .i64 0, .int .i64 0, .int .u32 0, .int .i64 0, .int .i64 0, .int .i64 0, .int .i64 0, .int .i64 0, .int .i64 0]) ∨ (i = 1 ∧ 4 ≤ bs.length ∧ ∃ A' c', RdSt (wp.alloc (.cells #[.bool false] 4)) W P M 33 A' c' (bs.drop 4) #[.int .i64 6, .int .u32 (beN (bs.take 4) : Int), .int .i64 0, .slice none 0 0, .int .i64 0, .int .i64 0, .int .i64 0, .int .i64 0, .int .i64 0, .int .i64 0, .int .u32 0, .int .i64 0, .int .i64 0, .int .i64 0, .int .i64 0, .int .i64 0, .int .i64 0]) ∨ (i = 2 ∧ 5 ≤ bs.length ∧ ∃ A' c', RdSt (wp.alloc (.cells #[.bool false] 4)) W P M 33 A' c' (bs.drop 5) #[.int .i64 6, .int .u32 (beN (bs.take 4) : Int), .int .i64 0, .slice none 0 0, .int .i64 0, .int .i64 0, .int .i64 0, .int .i64 0, .int .i64 0, .int .i64 0, .int .u32 0, .int .i64 0, .int .i64 0, .int .i64 0, .int .i64 (beN ((bs.drop 4).take 1) : Int), .int .i64 0, .int .i64 0])) → Chg (fun i => i = P ∨ i = M) (wp.alloc (.cells #[.bool false] 4)) W := fun i W hq => by
    rcases hq with ⟨rfl, hl, A', c', hq⟩ | ⟨rfl, hl, A', c', hq⟩ | ⟨rfl, hl, A', c', hq⟩ <;> exact hq.chg
  refine (overQ_gen wp P M fb 0 2 [48, 59]
    (fun i W => (i = 0 ∧ 0 ≤ bs.length ∧ ∃ A' c', RdSt (wp.alloc (.cells #[.bool false] 4)) W P M 33 A' c' bs #[.int .i64 6, .int .u32 0, .int .i64 0, .slice none 0 0, .int .i64 0, .int .i64 0, .int .i64 0, .int .i64 0, .int .i64 0, .int .i64 0, .int .u32 0, .int .i64 0, .int .i64 0, .int .i64 0, .int .i64 0, .int .i64 0, .int .i64 0]) ∨ (i = 1 ∧ 4 ≤ bs.length ∧ ∃ A' c', RdSt (wp.alloc (.cells #[.bool false] 4)) W P M 33 A' c' (bs.drop 4) #[.int .i64 6, .int .u32 (beN (bs.take 4) : Int), .int .i64 0, .slice none 0 0, .int .i64 0, .int .i64 0, .int .i64 0, .int .i64 0, .int .i64 0, .int .i64 0, .int .u32 0, .int .i64 0, .int .i64 0, .int .i64 0, .int .i64 0, .int .i64 0, .int .i64 0]) ∨ (i = 2 ∧ 5 ≤ bs.length ∧ ∃ A' c', RdSt (wp.alloc (.cells #[.bool false] 4)) W P M 33 A' c' (bs.drop 5) #[.int .i64 6, .int .u32 (beN (bs.take 4) : Int), .int .i64 0, .slice none 0 0, .int .i64 0, .int .i64 0, .int .i64 0, .int .i64 0, .int .i64 0, .int .i64 0, .int .u32 0, .int .i64 0, .int .i64 0, .int .i64 0, .int .i64 (beN ((bs.drop 4).take 1) : Int), .int .i64 0, .int .i64 0]))
    (fun W => ¬ (bs.length = 5) ∧ Chg (fun i => i = P ∨ i = M) (wp.alloc (.cells #[.bool false] 4)) W)
    ?_ ?_ ?_ (fun i W hq => chgE W (chgQ i W hq)) (fun W hR => chgE W hR.2) ?_ ?_ (by simp)).mono ?_
  · intro i h args W
    have : i = 0 ∨ i = 1 := by simp at h; omega
    rcases this with rfl | rfl
    · exact enters_of Try.func48 (by kernel_rfl) rfl args W
    · exact enters_of Try.func59 (by kernel_rfl) rfl args W
  · intro i W hq j h
    have hb : Blk W fb 102 #[.func (.func 48) #[] #[], .func (.func 59) #[] #[]] := (hF.alloc _).chg (chgQ i W hq) (by omega)
    have : j = 0 ∨ j = 1 := by simp at h; omega
    rcases this with rfl | rfl
    · exact (hb.cell 0).trans rfl
    · exact (hb.cell 1).trans rfl
  · exact .inl ⟨rfl, Nat.zero_le _, A, c, hst⟩
  · intro i h W hq
    rcases hq with ⟨rfl, hl, A', c', hq⟩ | ⟨rfl, hl, A', c', hq⟩ | ⟨rfl, hl, A', c', hq⟩
    · refine (asks1_of W P M _ (fun e w' h => rdPost_two h) (word_any _ W P M 33 A' c' bs _ 1 0 hq rfl)).mono fun e w' h => ?_
      by_cases hk : 4 ≤ bs.length
      · rw [if_pos hk] at h
        obtain ⟨h1, A2, c2, h4⟩ := h
        skip
        have hk' : 4 ≤ bs.length := by have := hk; omega
        exact .inl ⟨h1, .inr (.inl ⟨rfl, hk', A2, c2, h4⟩)⟩
      · rw [if_neg hk] at h
        exact .inr ⟨h.1, fun q => hk (by omega), h.2⟩
    · refine (asks7_of W P M _ (fun e w' h => rdPost_two h) (small_any _ W P M 33 A' c' (bs.drop 4) _ 14 0 hq rfl)).mono fun e w' h => ?_
      by_cases hk : 1 ≤ (bs.drop 4).length
      · rw [if_pos hk] at h
        obtain ⟨h1, A2, c2, h4⟩ := h
        rw [List.drop_drop] at h4
        have hk' : 5 ≤ bs.length := by have := hk; simp at this; omega
        exact .inl ⟨h1, .inr (.inr (⟨rfl, hk', A2, c2, h4⟩))⟩
      · rw [if_neg hk] at h
        exact .inr ⟨h.1, fun q => hk (by simp; omega), h.2⟩
    · simp at h
  · intro W hq
    rcases hq with ⟨h, _⟩ | ⟨h, _⟩ | ⟨_, hl, A', c', hq⟩
    · simp at h
    · simp at h
    · refine ⟨A', (bs.drop 5).length, c', (hq.pen.cell 0).trans rfl, .inr ⟨(hq.pen.cell 1).trans rfl, fun hm => ⟨fun q => ?_, hq.chg⟩⟩⟩
      simp at hm
      omega
  · intro e w' h
    rcases h with ⟨h1, W, A2, m, c2, hq, p0, p1, hw⟩ | ⟨h1, W, hR, hw⟩
    · rcases hq with ⟨h, _⟩ | ⟨h, _⟩ | ⟨_, hl, A', c', hq⟩
      · simp at h
      · simp at h
      · have hp1 := (hq.pen.cell 1).trans (show #[Value.slice A' (bs.drop 5).length c', Value.bool true][1]? = some (.bool true) from rfl)
        have hp0 := (hq.pen.cell 0).trans (show #[Value.slice A' (bs.drop 5).length c', Value.bool true][0]? = some (.slice A' (bs.drop 5).length c') from rfl)
        rw [hp0] at p0
        injection p0 with p0
        injection p0 with _ p0 _
        have hm : m = 0 := p1.elim (fun q => by rw [hp1] at q; injection q with q; injection q with q; cases q) id
        rw [hm] at p0
        simp at p0
        exact .inl ⟨by omega, h1, W, hq.msg, hq.chg, hw⟩
    · exact .inr ⟨hR.1, h1, W, hR.2, hw⟩
set_option maxHeartbeats 3200000 in
theorem ask7_over (wp : World) (P M fb : Nat) (A : Option Addr) (c : Nat) (bs : List UInt8) (hst : RdSt (wp.alloc (.cells #[.bool false] 4)) (wp.alloc (.cells #[.bool false] 4)) P M 33 A c bs #[.int .i64 7, .int .u32 0, .int .i64 0, .slice none 0 0, .int .i64 0, .int .i64 0, .int .i64 0, .int .i64 0, .int .i64 0, .int .i64 0, .int .u32 0, .int .i64 0, .int .i64 0, .int .i64 0, .int .i64 0, .int .i64 0, .int .i64 0]) (hF : Blk wp fb 102 #[.func (.func 48) #[] #[]]) (hP : P < wp.heap.size) (hM : M < wp.heap.size) (hfP : fb ≠ P) (hfM : fb ≠ M) :
    Calls Try.prog 30 #[.pointer (some ⟨P, 0, none⟩), .pointer (some ⟨M, 0, none⟩), .slice (some ⟨fb, 0, none⟩) 1 1] wp fun e w' =>
      ((bs.length = 4) ∧ e = .returned (.bool false) ∧ ∃ W, Blk W M 33 #[.int .i64 7, .int .u32 (beN (bs.take 4) : Int), .int .i64 0, .slice none 0 0, .int .i64 0, .int .i64 0, .int .i64 0, .int .i64 0, .int .i64 0, .int .i64 0, .int .u32 0, .int .i64 0, .int .i64 0, .int .i64 0, .int .i64 0, .int .i64 0, .int .i64 0] ∧ Chg (fun i => i = P ∨ i = M) (wp.alloc (.cells #[.bool false] 4)) W ∧ w' = W.setCell ⟨wp.heap.size, 0, none⟩ (.bool false)) ∨
      (¬ (bs.length = 4) ∧ e = .returned (.bool true) ∧ ∃ W, Chg (fun i => i = P ∨ i = M) (wp.alloc (.cells #[.bool false] 4)) W ∧ w' = (W.alloc (.cells #[] 128)).setCell ⟨wp.heap.size, 0, none⟩ (.bool true)) := by
  have chgE : ∀ W, Chg (fun i => i = P ∨ i = M) (wp.alloc (.cells #[.bool false] 4)) W → W.cell? ⟨wp.heap.size, 0, none⟩ = some (.bool false) ∧ W.frozen? ⟨wp.heap.size, 0, none⟩ = false := fun W hc => by
    have hb : Blk W wp.heap.size 4 #[.bool false] := (Blk.last wp _ _ rfl).chg hc (by omega)
    exact ⟨(hb.cell 0).trans rfl, hb.frozen 0⟩
  have chgQ : ∀ i W, ((i = 0 ∧ 0 ≤ bs.length ∧ ∃ A' c', RdSt (wp.alloc (.cells #[.bool false] 4)) W P M 33 A' c' bs #[.int .i64 7, .int .u32 0, .int .i64 0, .slice none 0 0, .int .i64 0, .int .i64 0, .int .i64 0, .int .i64 0, .int .i64 0, .int .i64 0, .int .u32 0, .int .i64 0, .int .i64 0, .int .i64 0, .int .i64 0, .int .i64 0, .int .i64 0]) ∨ (i = 1 ∧ 4 ≤ bs.length ∧ ∃ A' c', RdSt (wp.alloc (.cells #[.bool false] 4)) W P M 33 A' c' (bs.drop 4) #[.int .i64 7, .int .u32 (beN (bs.take 4) : Int), .int .i64 0, .slice none 0 0, .int .i64 0, .int .i64 0, .int .i64 0, .int .i64 0, .int .i64 0, .int .i64 0, .int .u32 0, .int .i64 0, .int .i64 0, .int .i64 0, .int .i64 0, .int .i64 0, .int .i64 0])) → Chg (fun i => i = P ∨ i = M) (wp.alloc (.cells #[.bool false] 4)) W := fun i W hq => by
    rcases hq with ⟨rfl, hl, A', c', hq⟩ | ⟨rfl, hl, A', c', hq⟩ <;> exact hq.chg
  refine (overQ_gen wp P M fb 0 1 [48]
    (fun i W => (i = 0 ∧ 0 ≤ bs.length ∧ ∃ A' c', RdSt (wp.alloc (.cells #[.bool false] 4)) W P M 33 A' c' bs #[.int .i64 7, .int .u32 0, .int .i64 0, .slice none 0 0, .int .i64 0, .int .i64 0, .int .i64 0, .int .i64 0, .int .i64 0, .int .i64 0, .int .u32 0, .int .i64 0, .int .i64 0, .int .i64 0, .int .i64 0, .int .i64 0, .int .i64 0]) ∨ (i = 1 ∧ 4 ≤ bs.length ∧ ∃ A' c', RdSt (wp.alloc (.cells #[.bool false] 4)) W P M 33 A' c' (bs.drop 4) #[.int .i64 7, .int .u32 (beN (bs.take 4) : Int), .int .i64 0, .slice none 0 0, .int .i64 0, .int .i64 0, .int .i64 0, .int .i64 0, .int .i64 0, .int .i64 0, .int .u32 0, .int .i64 0, .int .i64 0, .int .i64 0, .int .i64 0, .int .i64 0, .int .i64 0]))
    (fun W => ¬ (bs.length = 4) ∧ Chg (fun i => i = P ∨ i = M) (wp.alloc (.cells #[.bool false] 4)) W)
    ?_ ?_ ?_ (fun i W hq => chgE W (chgQ i W hq)) (fun W hR => chgE W hR.2) ?_ ?_ (by simp)).mono ?_
  · intro i h args W
    have : i = 0 := by simp at h; omega
    rcases this with rfl
    · exact enters_of Try.func48 (by kernel_rfl) rfl args W
  · intro i W hq j h
    have hb : Blk W fb 102 #[.func (.func 48) #[] #[]] := (hF.alloc _).chg (chgQ i W hq) (by omega)
    have : j = 0 := by simp at h; omega
    rcases this with rfl
    · exact (hb.cell 0).trans rfl
  · exact .inl ⟨rfl, Nat.zero_le _, A, c, hst⟩
  · intro i h W hq
    rcases hq with ⟨rfl, hl, A', c', hq⟩ | ⟨rfl, hl, A', c', hq⟩
    · refine (asks1_of W P M _ (fun e w' h => rdPost_two h) (word_any _ W P M 33 A' c' bs _ 1 0 hq rfl)).mono fun e w' h => ?_
      by_cases hk : 4 ≤ bs.length
      · rw [if_pos hk] at h
        obtain ⟨h1, A2, c2, h4⟩ := h
        skip
        have hk' : 4 ≤ bs.length := by have := hk; omega
        exact .inl ⟨h1, .inr (⟨rfl, hk', A2, c2, h4⟩)⟩
      · rw [if_neg hk] at h
        exact .inr ⟨h.1, fun q => hk (by omega), h.2⟩
    · simp at h
  · intro W hq
    rcases hq with ⟨h, _⟩ | ⟨_, hl, A', c', hq⟩
    · simp at h
    · refine ⟨A', (bs.drop 4).length, c', (hq.pen.cell 0).trans rfl, .inr ⟨(hq.pen.cell 1).trans rfl, fun hm => ⟨fun q => ?_, hq.chg⟩⟩⟩
      simp at hm
      omega
  · intro e w' h
    rcases h with ⟨h1, W, A2, m, c2, hq, p0, p1, hw⟩ | ⟨h1, W, hR, hw⟩
    · rcases hq with ⟨h, _⟩ | ⟨_, hl, A', c', hq⟩
      · simp at h
      · have hp1 := (hq.pen.cell 1).trans (show #[Value.slice A' (bs.drop 4).length c', Value.bool true][1]? = some (.bool true) from rfl)
        have hp0 := (hq.pen.cell 0).trans (show #[Value.slice A' (bs.drop 4).length c', Value.bool true][0]? = some (.slice A' (bs.drop 4).length c') from rfl)
        rw [hp0] at p0
        injection p0 with p0
        injection p0 with _ p0 _
        have hm : m = 0 := p1.elim (fun q => by rw [hp1] at q; injection q with q; injection q with q; cases q) id
        rw [hm] at p0
        simp at p0
        exact .inl ⟨by omega, h1, W, hq.msg, hq.chg, hw⟩
    · exact .inr ⟨hR.1, h1, W, hR.2, hw⟩
set_option maxHeartbeats 3200000 in
theorem ask8_over (wp : World) (P M fb : Nat) (A : Option Addr) (c : Nat) (bs : List UInt8) (hst : RdSt (wp.alloc (.cells #[.bool false] 4)) (wp.alloc (.cells #[.bool false] 4)) P M 33 A c bs #[.int .i64 8, .int .u32 0, .int .i64 0, .slice none 0 0, .int .i64 0, .int .i64 0, .int .i64 0, .int .i64 0, .int .i64 0, .int .i64 0, .int .u32 0, .int .i64 0, .int .i64 0, .int .i64 0, .int .i64 0, .int .i64 0, .int .i64 0]) (hF : Blk wp fb 102 #[.func (.func 48) #[] #[]]) (hP : P < wp.heap.size) (hM : M < wp.heap.size) (hfP : fb ≠ P) (hfM : fb ≠ M) :
    Calls Try.prog 30 #[.pointer (some ⟨P, 0, none⟩), .pointer (some ⟨M, 0, none⟩), .slice (some ⟨fb, 0, none⟩) 1 1] wp fun e w' =>
      ((bs.length = 4) ∧ e = .returned (.bool false) ∧ ∃ W, Blk W M 33 #[.int .i64 8, .int .u32 (beN (bs.take 4) : Int), .int .i64 0, .slice none 0 0, .int .i64 0, .int .i64 0, .int .i64 0, .int .i64 0, .int .i64 0, .int .i64 0, .int .u32 0, .int .i64 0, .int .i64 0, .int .i64 0, .int .i64 0, .int .i64 0, .int .i64 0] ∧ Chg (fun i => i = P ∨ i = M) (wp.alloc (.cells #[.bool false] 4)) W ∧ w' = W.setCell ⟨wp.heap.size, 0, none⟩ (.bool false)) ∨
      (¬ (bs.length = 4) ∧ e = .returned (.bool true) ∧ ∃ W, Chg (fun i => i = P ∨ i = M) (wp.alloc (.cells #[.bool false] 4)) W ∧ w' = (W.alloc (.cells #[] 128)).setCell ⟨wp.heap.size, 0, none⟩ (.bool true)) := by
  have chgE : ∀ W, Chg (fun i => i = P ∨ i = M) (wp.alloc (.cells #[.bool false] 4)) W → W.cell? ⟨wp.heap.size, 0, none⟩ = some (.bool false) ∧ W.frozen? ⟨wp.heap.size, 0, none⟩ = false := fun W hc => by
    have hb : Blk W wp.heap.size 4 #[.bool false] := (Blk.last wp _ _ rfl).chg hc (by omega)
    exact ⟨(hb.cell 0).trans rfl, hb.frozen 0⟩
  have chgQ : ∀ i W, ((i = 0 ∧ 0 ≤ bs.length ∧ ∃ A' c', RdSt (wp.alloc (.cells #[.bool false] 4)) W P M 33 A' c' bs #[.int .i64 8, .int .u32 0, .int .i64 0, .slice none 0 0, .int .i64 0, .int .i64 0, .int .i64 0, .int .i64 0, .int .i64 0, .int .i64 0, .int .u32 0, .int .i64 0, .int .i64 0, .int .i64 0, .int .i64 0, .int .i64 0, .int .i64 0]) ∨ (i = 1 ∧ 4 ≤ bs.length ∧ ∃ A' c', RdSt (wp.alloc (.cells #[.bool false] 4)) W P M 33 A' c' (bs.drop 4) #[.int .i64 8, .int .u32 (beN (bs.take 4) : Int), .int .i64 0, .slice none 0 0, .int .i64 0, .int .i64 0, .int .i64 0, .int .i64 0, .int .i64 0, .int .i64 0, .int .u32 0, .int .i64 0, .int .i64 0, .int .i64 0, .int .i64 0, .int .i64 0, .int .i64 0])) → Chg (fun i => i = P ∨ i = M) (wp.alloc (.cells #[.bool false] 4)) W := fun i W hq => by
    rcases hq with ⟨rfl, hl, A', c', hq⟩ | ⟨rfl, hl, A', c', hq⟩ <;> exact hq.chg
  refine (overQ_gen wp P M fb 0 1 [48]
    (fun i W => (i = 0 ∧ 0 ≤ bs.length ∧ ∃ A' c', RdSt (wp.alloc (.cells #[.bool false] 4)) W P M 33 A' c' bs #[.int .i64 8, .int .u32 0, .int .i64 0, .slice none 0 0, .int .i64 0, .int .i64 0, .int .i64 0, .int .i64 0, .int .i64 0, .int .i64 0, .int .u32 0, .int .i64 0, .int .i64 0, .int .i64 0, .int .i64 0, .int .i64 0, .int .i64 0]) ∨ (i = 1 ∧ 4 ≤ bs.length ∧ ∃ A' c', RdSt (wp.alloc (.cells #[.bool false] 4)) W P M 33 A' c' (bs.drop 4) #[.int .i64 8, .int .u32 (beN (bs.take 4) : Int), .int .i64 0, .slice none 0 0, .int .i64 0, .int .i64 0, .int .i64 0, .int .i64 0, .int .i64 0, .int .i64 0, .int .u32 0, .int .i64 0, .int .i64 0, .int .i64 0, .int .i64 0, .int .i64 0, .int .i64 0]))
    (fun W => ¬ (bs.length = 4) ∧ Chg (fun i => i = P ∨ i = M) (wp.alloc (.cells #[.bool false] 4)) W)
    ?_ ?_ ?_ (fun i W hq => chgE W (chgQ i W hq)) (fun W hR => chgE W hR.2) ?_ ?_ (by simp)).mono ?_
  · intro i h args W
    have : i = 0 := by simp at h; omega
    rcases this with rfl
    · exact enters_of Try.func48 (by kernel_rfl) rfl args W
  · intro i W hq j h
    have hb : Blk W fb 102 #[.func (.func 48) #[] #[]] := (hF.alloc _).chg (chgQ i W hq) (by omega)
    have : j = 0 := by simp at h; omega
    rcases this with rfl
    · exact (hb.cell 0).trans rfl
  · exact .inl ⟨rfl, Nat.zero_le _, A, c, hst⟩
  · intro i h W hq
    rcases hq with ⟨rfl, hl, A', c', hq⟩ | ⟨rfl, hl, A', c', hq⟩
    · refine (asks1_of W P M _ (fun e w' h => rdPost_two h) (word_any _ W P M 33 A' c' bs _ 1 0 hq rfl)).mono fun e w' h => ?_
      by_cases hk : 4 ≤ bs.length
      · rw [if_pos hk] at h
        obtain ⟨h1, A2, c2, h4⟩ := h
        skip
        have hk' : 4 ≤ bs.length := by have := hk; omega
        exact .inl ⟨h1, .inr (⟨rfl, hk', A2, c2, h4⟩)⟩
      · rw [if_neg hk] at h
        exact .inr ⟨h.1, fun q => hk (by omega), h.2⟩
    · simp at h
  · intro W hq
    rcases hq with ⟨h, _⟩ | ⟨_, hl, A', c', hq⟩
    · simp at h
    · refine ⟨A', (bs.drop 4).length, c', (hq.pen.cell 0).trans rfl, .inr ⟨(hq.pen.cell 1).trans rfl, fun hm => ⟨fun q => ?_, hq.chg⟩⟩⟩
      simp at hm
      omega
  · intro e w' h
    rcases h with ⟨h1, W, A2, m, c2, hq, p0, p1, hw⟩ | ⟨h1, W, hR, hw⟩
    · rcases hq with ⟨h, _⟩ | ⟨_, hl, A', c', hq⟩
      · simp at h
      · have hp1 := (hq.pen.cell 1).trans (show #[Value.slice A' (bs.drop 4).length c', Value.bool true][1]? = some (.bool true) from rfl)
        have hp0 := (hq.pen.cell 0).trans (show #[Value.slice A' (bs.drop 4).length c', Value.bool true][0]? = some (.slice A' (bs.drop 4).length c') from rfl)
        rw [hp0] at p0
        injection p0 with p0
        injection p0 with _ p0 _
        have hm : m = 0 := p1.elim (fun q => by rw [hp1] at q; injection q with q; injection q with q; cases q) id
        rw [hm] at p0
        simp at p0
        exact .inl ⟨by omega, h1, W, hq.msg, hq.chg, hw⟩
    · exact .inr ⟨hR.1, h1, W, hR.2, hw⟩
set_option maxHeartbeats 3200000 in
theorem ask9_over (wp : World) (P M fb : Nat) (A : Option Addr) (c : Nat) (bs : List UInt8) (hst : RdSt (wp.alloc (.cells #[.bool false] 4)) (wp.alloc (.cells #[.bool false] 4)) P M 33 A c bs #[.int .i64 9, .int .u32 0, .int .i64 0, .slice none 0 0, .int .i64 0, .int .i64 0, .int .i64 0, .int .i64 0, .int .i64 0, .int .i64 0, .int .u32 0, .int .i64 0, .int .i64 0, .int .i64 0, .int .i64 0, .int .i64 0, .int .i64 0]) (hF : Blk wp fb 102 #[.func (.func 48) #[] #[]]) (hP : P < wp.heap.size) (hM : M < wp.heap.size) (hfP : fb ≠ P) (hfM : fb ≠ M) :
    Calls Try.prog 30 #[.pointer (some ⟨P, 0, none⟩), .pointer (some ⟨M, 0, none⟩), .slice (some ⟨fb, 0, none⟩) 1 1] wp fun e w' =>
      ((bs.length = 4) ∧ e = .returned (.bool false) ∧ ∃ W, Blk W M 33 #[.int .i64 9, .int .u32 (beN (bs.take 4) : Int), .int .i64 0, .slice none 0 0, .int .i64 0, .int .i64 0, .int .i64 0, .int .i64 0, .int .i64 0, .int .i64 0, .int .u32 0, .int .i64 0, .int .i64 0, .int .i64 0, .int .i64 0, .int .i64 0, .int .i64 0] ∧ Chg (fun i => i = P ∨ i = M) (wp.alloc (.cells #[.bool false] 4)) W ∧ w' = W.setCell ⟨wp.heap.size, 0, none⟩ (.bool false)) ∨
      (¬ (bs.length = 4) ∧ e = .returned (.bool true) ∧ ∃ W, Chg (fun i => i = P ∨ i = M) (wp.alloc (.cells #[.bool false] 4)) W ∧ w' = (W.alloc (.cells #[] 128)).setCell ⟨wp.heap.size, 0, none⟩ (.bool true)) := by
  have chgE : ∀ W, Chg (fun i => i = P ∨ i = M) (wp.alloc (.cells #[.bool false] 4)) W → W.cell? ⟨wp.heap.size, 0, none⟩ = some (.bool false) ∧ W.frozen? ⟨wp.heap.size, 0, none⟩ = false := fun W hc => by
    have hb : Blk W wp.heap.size 4 #[.bool false] := (Blk.last wp _ _ rfl).chg hc (by omega)
    exact ⟨(hb.cell 0).trans rfl, hb.frozen 0⟩
  have chgQ : ∀ i W, ((i = 0 ∧ 0 ≤ bs.length ∧ ∃ A' c', RdSt (wp.alloc (.cells #[.bool false] 4)) W P M 33 A' c' bs #[.int .i64 9, .int .u32 0, .int .i64 0, .slice none 0 0, .int .i64 0, .int .i64 0, .int .i64 0, .int .i64 0, .int .i64 0, .int .i64 0, .int .u32 0, .int .i64 0, .int .i64 0, .int .i64 0, .int .i64 0, .int .i64 0, .int .i64 0]) ∨ (i = 1 ∧ 4 ≤ bs.length ∧ ∃ A' c', RdSt (wp.alloc (.cells #[.bool false] 4)) W P M 33 A' c' (bs.drop 4) #[.int .i64 9, .int .u32 (beN (bs.take 4) : Int), .int .i64 0, .slice none 0 0, .int .i64 0, .int .i64 0, .int .i64 0, .int .i64 0, .int .i64 0, .int .i64 0, .int .u32 0, .int .i64 0, .int .i64 0, .int .i64 0, .int .i64 0, .int .i64 0, .int .i64 0])) → Chg (fun i => i = P ∨ i = M) (wp.alloc (.cells #[.bool false] 4)) W := fun i W hq => by
    rcases hq with ⟨rfl, hl, A', c', hq⟩ | ⟨rfl, hl, A', c', hq⟩ <;> exact hq.chg
  refine (overQ_gen wp P M fb 0 1 [48]
    (fun i W => (i = 0 ∧ 0 ≤ bs.length ∧ ∃ A' c', RdSt (wp.alloc (.cells #[.bool false] 4)) W P M 33 A' c' bs #[.int .i64 9, .int .u32 0, .int .i64 0, .slice none 0 0, .int .i64 0, .int .i64 0, .int .i64 0, .int .i64 0, .int .i64 0, .int .i64 0, .int .u32 0, .int .i64 0, .int .i64 0, .int .i64 0, .int .i64 0, .int .i64 0, .int .i64 0]) ∨ (i = 1 ∧ 4 ≤ bs.length ∧ ∃ A' c', RdSt (wp.alloc (.cells #[.bool false] 4)) W P M 33 A' c' (bs.drop 4) #[.int .i64 9, .int .u32 (beN (bs.take 4) : Int), .int .i64 0, .slice none 0 0, .int .i64 0, .int .i64 0, .int .i64 0, .int .i64 0, .int .i64 0, .int .i64 0, .int .u32 0, .int .i64 0, .int .i64 0, .int .i64 0, .int .i64 0, .int .i64 0, .int .i64 0]))
    (fun W => ¬ (bs.length = 4) ∧ Chg (fun i => i = P ∨ i = M) (wp.alloc (.cells #[.bool false] 4)) W)
    ?_ ?_ ?_ (fun i W hq => chgE W (chgQ i W hq)) (fun W hR => chgE W hR.2) ?_ ?_ (by simp)).mono ?_
  · intro i h args W
    have : i = 0 := by simp at h; omega
    rcases this with rfl
    · exact enters_of Try.func48 (by kernel_rfl) rfl args W
  · intro i W hq j h
    have hb : Blk W fb 102 #[.func (.func 48) #[] #[]] := (hF.alloc _).chg (chgQ i W hq) (by omega)
    have : j = 0 := by simp at h; omega
    rcases this with rfl
    · exact (hb.cell 0).trans rfl
  · exact .inl ⟨rfl, Nat.zero_le _, A, c, hst⟩
  · intro i h W hq
    rcases hq with ⟨rfl, hl, A', c', hq⟩ | ⟨rfl, hl, A', c', hq⟩
    · refine (asks1_of W P M _ (fun e w' h => rdPost_two h) (word_any _ W P M 33 A' c' bs _ 1 0 hq rfl)).mono fun e w' h => ?_
      by_cases hk : 4 ≤ bs.length
      · rw [if_pos hk] at h
        obtain ⟨h1, A2, c2, h4⟩ := h
        skip
        have hk' : 4 ≤ bs.length := by have := hk; omega
        exact .inl ⟨h1, .inr (⟨rfl, hk', A2, c2, h4⟩)⟩
      · rw [if_neg hk] at h
        exact .inr ⟨h.1, fun q => hk (by omega), h.2⟩
    · simp at h
  · intro W hq
    rcases hq with ⟨h, _⟩ | ⟨_, hl, A', c', hq⟩
    · simp at h
    · refine ⟨A', (bs.drop 4).length, c', (hq.pen.cell 0).trans rfl, .inr ⟨(hq.pen.cell 1).trans rfl, fun hm => ⟨fun q => ?_, hq.chg⟩⟩⟩
      simp at hm
      omega
  · intro e w' h
    rcases h with ⟨h1, W, A2, m, c2, hq, p0, p1, hw⟩ | ⟨h1, W, hR, hw⟩
    · rcases hq with ⟨h, _⟩ | ⟨_, hl, A', c', hq⟩
      · simp at h
      · have hp1 := (hq.pen.cell 1).trans (show #[Value.slice A' (bs.drop 4).length c', Value.bool true][1]? = some (.bool true) from rfl)
        have hp0 := (hq.pen.cell 0).trans (show #[Value.slice A' (bs.drop 4).length c', Value.bool true][0]? = some (.slice A' (bs.drop 4).length c') from rfl)
        rw [hp0] at p0
        injection p0 with p0
        injection p0 with _ p0 _
        have hm : m = 0 := p1.elim (fun q => by rw [hp1] at q; injection q with q; injection q with q; cases q) id
        rw [hm] at p0
        simp at p0
        exact .inl ⟨by omega, h1, W, hq.msg, hq.chg, hw⟩
    · exact .inr ⟨hR.1, h1, W, hR.2, hw⟩
set_option maxHeartbeats 3200000 in
theorem ask10_over (wp : World) (P M fb : Nat) (A : Option Addr) (c : Nat) (bs : List UInt8) (hst : RdSt (wp.alloc (.cells #[.bool false] 4)) (wp.alloc (.cells #[.bool false] 4)) P M 33 A c bs #[.int .i64 10, .int .u32 0, .int .i64 0, .slice none 0 0, .int .i64 0, .int .i64 0, .int .i64 0, .int .i64 0, .int .i64 0, .int .i64 0, .int .u32 0, .int .i64 0, .int .i64 0, .int .i64 0, .int .i64 0, .int .i64 0, .int .i64 0]) (hF : Blk wp fb 102 #[.func (.func 48) #[] #[], .func (.func 60) #[] #[], .func (.func 62) #[] #[]]) (hP : P < wp.heap.size) (hM : M < wp.heap.size) (hfP : fb ≠ P) (hfM : fb ≠ M) :
    Calls Try.prog 30 #[.pointer (some ⟨P, 0, none⟩), .pointer (some ⟨M, 0, none⟩), .slice (some ⟨fb, 0, none⟩) 3 3] wp fun e w' =>
      ((bs.length = 20) ∧ e = .returned (.bool false) ∧ ∃ W, Blk W M 33 #[.int .i64 10, .int .u32 (beN (bs.take 4) : Int), .int .i64 0, .slice none 0 0, .int .i64 0, .int .i64 0, .int .i64 0, .int .i64 0, .int .i64 0, .int .i64 0, .int .u32 0, .int .i64 0, .int .i64 0, .int .i64 0, .int .i64 0, .int .i64 (s64 (beN ((bs.drop 4).take 8))), .int .i64 (s64 (beN ((bs.drop 12).take 8)))] ∧ Chg (fun i => i = P ∨ i = M) (wp.alloc (.cells #[.bool false] 4)) W ∧ w' = W.setCell ⟨wp.heap.size, 0, none⟩ (.bool false)) ∨
      (¬ (bs.length = 20) ∧ e = .returned (.bool true) ∧ ∃ W, Chg (fun i => i = P ∨ i = M) (wp.alloc (.cells #[.bool false] 4)) W ∧ w' = (W.alloc (.cells #[] 128)).setCell ⟨wp.heap.size, 0, none⟩ (.bool true)) := by
  have chgE : ∀ W, Chg (fun i => i = P ∨ i = M) (wp.alloc (.cells #[.bool false] 4)) W → W.cell? ⟨wp.heap.size, 0, none⟩ = some (.bool false) ∧ W.frozen? ⟨wp.heap.size, 0, none⟩ = false := fun W hc => by
    have hb : Blk W wp.heap.size 4 #[.bool false] := (Blk.last wp _ _ rfl).chg hc (by omega)
    exact ⟨(hb.cell 0).trans rfl, hb.frozen 0⟩
  have chgQ : ∀ i W, ((i = 0 ∧ 0 ≤ bs.length ∧ ∃ A' c', RdSt (wp.alloc (.cells #[.bool false] 4)) W P M 33 A' c' bs #[.int .i64 10, .int .u32 0, .int .i64 0, .slice none 0 0, .int .i64 0, .int .i64 0, .int .i64 0, .int .i64 0, .int .i64 0, .int .i64 0, .int .u32 0, .int .i64 0, .int .i64 0, .int .i64 0, .int .i64 0, .int .i64 0, .int .i64 0]) ∨ (i = 1 ∧ 4 ≤ bs.length ∧ ∃ A' c', RdSt (wp.alloc (.cells #[.bool false] 4)) W P M 33 A' c' (bs.drop 4) #[.int .i64 10, .int .u32 (beN (bs.take 4) : Int), .int .i64 0, .slice none 0 0, .int .i64 0, .int .i64 0, .int .i64 0, .int .i64 0, .int .i64 0, .int .i64 0, .int .u32 0, .int .i64 0, .int .i64 0, .int .i64 0, .int .i64 0, .int .i64 0, .int .i64 0]) ∨ (i = 2 ∧ 12 ≤ bs.length ∧ ∃ A' c', RdSt (wp.alloc (.cells #[.bool false] 4)) W P M 33 A' c' (bs.drop 12) #[.int .i64 10, .int .u32 (beN (bs.take 4) : Int), .int .i64 0, .slice none 0 0, .int .i64 0, .int .i64 0, .int .i64 0, .int .i64 0, .int .i64 0, .int .i64 0, .int .u32 0, .int .i64 0, .int .i64 0, .int .i64 0, .int .i64 0, .int .i64 (s64 (beN ((bs.drop 4).take 8))), .int .i64 0]) ∨ (i = 3 ∧ 20 ≤ bs.length ∧ ∃ A' c', RdSt (wp.alloc (.cells #[.bool false] 4)) W P M 33 A' c' (bs.drop 20) #[.int .i64 10, .int .u32 (beN (bs.take 4) : Int), .int .i64 0, .slice none 0 0, .int .i64 0, .int .i64 0, .int .i64 0, .int .i64 0, .int .i64 0, .int .i64 0, .int .u32 0, .int .i64 0, .int .i64 0, .int .i64 0, .int .i64 0, .int .i64 (s64 (beN ((bs.drop 4).take 8))), .int .i64 (s64 (beN ((bs.drop 12).take 8)))])) → Chg (fun i => i = P ∨ i = M) (wp.alloc (.cells #[.bool false] 4)) W := fun i W hq => by
    rcases hq with ⟨rfl, hl, A', c', hq⟩ | ⟨rfl, hl, A', c', hq⟩ | ⟨rfl, hl, A', c', hq⟩ | ⟨rfl, hl, A', c', hq⟩ <;> exact hq.chg
  refine (overQ_gen wp P M fb 0 3 [48, 60, 62]
    (fun i W => (i = 0 ∧ 0 ≤ bs.length ∧ ∃ A' c', RdSt (wp.alloc (.cells #[.bool false] 4)) W P M 33 A' c' bs #[.int .i64 10, .int .u32 0, .int .i64 0, .slice none 0 0, .int .i64 0, .int .i64 0, .int .i64 0, .int .i64 0, .int .i64 0, .int .i64 0, .int .u32 0, .int .i64 0, .int .i64 0, .int .i64 0, .int .i64 0, .int .i64 0, .int .i64 0]) ∨ (i = 1 ∧ 4 ≤ bs.length ∧ ∃ A' c', RdSt (wp.alloc (.cells #[.bool false] 4)) W P M 33 A' c' (bs.drop 4) #[.int .i64 10, .int .u32 (beN (bs.take 4) : Int), .int .i64 0, .slice none 0 0, .int .i64 0, .int .i64 0, .int .i64 0, .int .i64 0, .int .i64 0, .int .i64 0, .int .u32 0, .int .i64 0, .int .i64 0, .int .i64 0, .int .i64 0, .int .i64 0, .int .i64 0]) ∨ (i = 2 ∧ 12 ≤ bs.length ∧ ∃ A' c', RdSt (wp.alloc (.cells #[.bool false] 4)) W P M 33 A' c' (bs.drop 12) #[.int .i64 10, .int .u32 (beN (bs.take 4) : Int), .int .i64 0, .slice none 0 0, .int .i64 0, .int .i64 0, .int .i64 0, .int .i64 0, .int .i64 0, .int .i64 0, .int .u32 0, .int .i64 0, .int .i64 0, .int .i64 0, .int .i64 0, .int .i64 (s64 (beN ((bs.drop 4).take 8))), .int .i64 0]) ∨ (i = 3 ∧ 20 ≤ bs.length ∧ ∃ A' c', RdSt (wp.alloc (.cells #[.bool false] 4)) W P M 33 A' c' (bs.drop 20) #[.int .i64 10, .int .u32 (beN (bs.take 4) : Int), .int .i64 0, .slice none 0 0, .int .i64 0, .int .i64 0, .int .i64 0, .int .i64 0, .int .i64 0, .int .i64 0, .int .u32 0, .int .i64 0, .int .i64 0, .int .i64 0, .int .i64 0, .int .i64 (s64 (beN ((bs.drop 4).take 8))), .int .i64 (s64 (beN ((bs.drop 12).take 8)))]))
    (fun W => ¬ (bs.length = 20) ∧ Chg (fun i => i = P ∨ i = M) (wp.alloc (.cells #[.bool false] 4)) W)
    ?_ ?_ ?_ (fun i W hq => chgE W (chgQ i W hq)) (fun W hR => chgE W hR.2) ?_ ?_ (by simp)).mono ?_
  · intro i h args W
    have : i = 0 ∨ i = 1 ∨ i = 2 := by simp at h; omega
    rcases this with rfl | rfl | rfl
    · exact enters_of Try.func48 (by kernel_rfl) rfl args W
    · exact enters_of Try.func60 (by kernel_rfl) rfl args W
    · exact enters_of Try.func62 (by kernel_rfl) rfl args W
  · intro i W hq j h
    have hb : Blk W fb 102 #[.func (.func 48) #[] #[], .func (.func 60) #[] #[], .func (.func 62) #[] #[]] := (hF.alloc _).chg (chgQ i W hq) (by omega)
    have : j = 0 ∨ j = 1 ∨ j = 2 := by simp at h; omega
    rcases this with rfl | rfl | rfl
    · exact (hb.cell 0).trans rfl
    · exact (hb.cell 1).trans rfl
    · exact (hb.cell 2).trans rfl
  · exact .inl ⟨rfl, Nat.zero_le _, A, c, hst⟩
  · intro i h W hq
    rcases hq with ⟨rfl, hl, A', c', hq⟩ | ⟨rfl, hl, A', c', hq⟩ | ⟨rfl, hl, A', c', hq⟩ | ⟨rfl, hl, A', c', hq⟩
    · refine (asks1_of W P M _ (fun e w' h => rdPost_two h) (word_any _ W P M 33 A' c' bs _ 1 0 hq rfl)).mono fun e w' h => ?_
      by_cases hk : 4 ≤ bs.length
      · rw [if_pos hk] at h
        obtain ⟨h1, A2, c2, h4⟩ := h
        skip
        have hk' : 4 ≤ bs.length := by have := hk; omega
        exact .inl ⟨h1, .inr (.inl ⟨rfl, hk', A2, c2, h4⟩)⟩
      · rw [if_neg hk] at h
        exact .inr ⟨h.1, fun q => hk (by omega), h.2⟩
    · refine (asks8_of W P M _ (fun e w' h => rdPost_two h) (long_any _ W P M 33 A' c' (bs.drop 4) _ 15 0 hq rfl)).mono fun e w' h => ?_
      by_cases hk : 8 ≤ (bs.drop 4).length
      · rw [if_pos hk] at h
        obtain ⟨h1, A2, c2, h4⟩ := h
        rw [List.drop_drop] at h4
        have hk' : 12 ≤ bs.length := by have := hk; simp at this; omega
        exact .inl ⟨h1, .inr (.inr (.inl ⟨rfl, hk', A2, c2, h4⟩))⟩
      · rw [if_neg hk] at h
        exact .inr ⟨h.1, fun q => hk (by simp; omega), h.2⟩
    · refine (asks9_of W P M _ (fun e w' h => rdPost_two h) (long_any _ W P M 33 A' c' (bs.drop 12) _ 16 0 hq rfl)).mono fun e w' h => ?_
      by_cases hk : 8 ≤ (bs.drop 12).length
      · rw [if_pos hk] at h
        obtain ⟨h1, A2, c2, h4⟩ := h
        rw [List.drop_drop] at h4
        have hk' : 20 ≤ bs.length := by have := hk; simp at this; omega
        exact .inl ⟨h1, .inr (.inr (.inr (⟨rfl, hk', A2, c2, h4⟩)))⟩
      · rw [if_neg hk] at h
        exact .inr ⟨h.1, fun q => hk (by simp; omega), h.2⟩
    · simp at h
  · intro W hq
    rcases hq with ⟨h, _⟩ | ⟨h, _⟩ | ⟨h, _⟩ | ⟨_, hl, A', c', hq⟩
    · simp at h
    · simp at h
    · simp at h
    · refine ⟨A', (bs.drop 20).length, c', (hq.pen.cell 0).trans rfl, .inr ⟨(hq.pen.cell 1).trans rfl, fun hm => ⟨fun q => ?_, hq.chg⟩⟩⟩
      simp at hm
      omega
  · intro e w' h
    rcases h with ⟨h1, W, A2, m, c2, hq, p0, p1, hw⟩ | ⟨h1, W, hR, hw⟩
    · rcases hq with ⟨h, _⟩ | ⟨h, _⟩ | ⟨h, _⟩ | ⟨_, hl, A', c', hq⟩
      · simp at h
      · simp at h
      · simp at h
      · have hp1 := (hq.pen.cell 1).trans (show #[Value.slice A' (bs.drop 20).length c', Value.bool true][1]? = some (.bool true) from rfl)
        have hp0 := (hq.pen.cell 0).trans (show #[Value.slice A' (bs.drop 20).length c', Value.bool true][0]? = some (.slice A' (bs.drop 20).length c') from rfl)
        rw [hp0] at p0
        injection p0 with p0
        injection p0 with _ p0 _
        have hm : m = 0 := p1.elim (fun q => by rw [hp1] at q; injection q with q; injection q with q; cases q) id
        rw [hm] at p0
        simp at p0
        exact .inl ⟨by omega, h1, W, hq.msg, hq.chg, hw⟩
    · exact .inr ⟨hR.1, h1, W, hR.2, hw⟩
set_option maxHeartbeats 3200000 in
theorem ask11_over (wp : World) (P M fb : Nat) (A : Option Addr) (c : Nat) (bs : List UInt8) (hst : RdSt (wp.alloc (.cells #[.bool false] 4)) (wp.alloc (.cells #[.bool false] 4)) P M 33 A c bs #[.int .i64 11, .int .u32 0, .int .i64 0, .slice none 0 0, .int .i64 0, .int .i64 0, .int .i64 0, .int .i64 0, .int .i64 0, .int .i64 0, .int .u32 0, .int .i64 0, .int .i64 0, .int .i64 0, .int .i64 0, .int .i64 0, .int .i64 0]) (hF : Blk wp fb 102 #[.func (.func 48) #[] #[]]) (hP : P < wp.heap.size) (hM : M < wp.heap.size) (hfP : fb ≠ P) (hfM : fb ≠ M) :
    Calls Try.prog 30 #[.pointer (some ⟨P, 0, none⟩), .pointer (some ⟨M, 0, none⟩), .slice (some ⟨fb, 0, none⟩) 1 1] wp fun e w' =>
      ((bs.length = 4) ∧ e = .returned (.bool false) ∧ ∃ W, Blk W M 33 #[.int .i64 11, .int .u32 (beN (bs.take 4) : Int), .int .i64 0, .slice none 0 0, .int .i64 0, .int .i64 0, .int .i64 0, .int .i64 0, .int .i64 0, .int .i64 0, .int .u32 0, .int .i64 0, .int .i64 0, .int .i64 0, .int .i64 0, .int .i64 0, .int .i64 0] ∧ Chg (fun i => i = P ∨ i = M) (wp.alloc (.cells #[.bool false] 4)) W ∧ w' = W.setCell ⟨wp.heap.size, 0, none⟩ (.bool false)) ∨
      (¬ (bs.length = 4) ∧ e = .returned (.bool true) ∧ ∃ W, Chg (fun i => i = P ∨ i = M) (wp.alloc (.cells #[.bool false] 4)) W ∧ w' = (W.alloc (.cells #[] 128)).setCell ⟨wp.heap.size, 0, none⟩ (.bool true)) := by
  have chgE : ∀ W, Chg (fun i => i = P ∨ i = M) (wp.alloc (.cells #[.bool false] 4)) W → W.cell? ⟨wp.heap.size, 0, none⟩ = some (.bool false) ∧ W.frozen? ⟨wp.heap.size, 0, none⟩ = false := fun W hc => by
    have hb : Blk W wp.heap.size 4 #[.bool false] := (Blk.last wp _ _ rfl).chg hc (by omega)
    exact ⟨(hb.cell 0).trans rfl, hb.frozen 0⟩
  have chgQ : ∀ i W, ((i = 0 ∧ 0 ≤ bs.length ∧ ∃ A' c', RdSt (wp.alloc (.cells #[.bool false] 4)) W P M 33 A' c' bs #[.int .i64 11, .int .u32 0, .int .i64 0, .slice none 0 0, .int .i64 0, .int .i64 0, .int .i64 0, .int .i64 0, .int .i64 0, .int .i64 0, .int .u32 0, .int .i64 0, .int .i64 0, .int .i64 0, .int .i64 0, .int .i64 0, .int .i64 0]) ∨ (i = 1 ∧ 4 ≤ bs.length ∧ ∃ A' c', RdSt (wp.alloc (.cells #[.bool false] 4)) W P M 33 A' c' (bs.drop 4) #[.int .i64 11, .int .u32 (beN (bs.take 4) : Int), .int .i64 0, .slice none 0 0, .int .i64 0, .int .i64 0, .int .i64 0, .int .i64 0, .int .i64 0, .int .i64 0, .int .u32 0, .int .i64 0, .int .i64 0, .int .i64 0, .int .i64 0, .int .i64 0, .int .i64 0])) → Chg (fun i => i = P ∨ i = M) (wp.alloc (.cells #[.bool false] 4)) W := fun i W hq => by
    rcases hq with ⟨rfl, hl, A', c', hq⟩ | ⟨rfl, hl, A', c', hq⟩ <;> exact hq.chg
  refine (overQ_gen wp P M fb 0 1 [48]
    (fun i W => (i = 0 ∧ 0 ≤ bs.length ∧ ∃ A' c', RdSt (wp.alloc (.cells #[.bool false] 4)) W P M 33 A' c' bs #[.int .i64 11, .int .u32 0, .int .i64 0, .slice none 0 0, .int .i64 0, .int .i64 0, .int .i64 0, .int .i64 0, .int .i64 0, .int .i64 0, .int .u32 0, .int .i64 0, .int .i64 0, .int .i64 0, .int .i64 0, .int .i64 0, .int .i64 0]) ∨ (i = 1 ∧ 4 ≤ bs.length ∧ ∃ A' c', RdSt (wp.alloc (.cells #[.bool false] 4)) W P M 33 A' c' (bs.drop 4) #[.int .i64 11, .int .u32 (beN (bs.take 4) : Int), .int .i64 0, .slice none 0 0, .int .i64 0, .int .i64 0, .int .i64 0, .int .i64 0, .int .i64 0, .int .i64 0, .int .u32 0, .int .i64 0, .int .i64 0, .int .i64 0, .int .i64 0, .int .i64 0, .int .i64 0]))
    (fun W => ¬ (bs.length = 4) ∧ Chg (fun i => i = P ∨ i = M) (wp.alloc (.cells #[.bool false] 4)) W)
    ?_ ?_ ?_ (fun i W hq => chgE W (chgQ i W hq)) (fun W hR => chgE W hR.2) ?_ ?_ (by simp)).mono ?_
  · intro i h args W
    have : i = 0 := by simp at h; omega
    rcases this with rfl
    · exact enters_of Try.func48 (by kernel_rfl) rfl args W
  · intro i W hq j h
    have hb : Blk W fb 102 #[.func (.func 48) #[] #[]] := (hF.alloc _).chg (chgQ i W hq) (by omega)
    have : j = 0 := by simp at h; omega
    rcases this with rfl
    · exact (hb.cell 0).trans rfl
  · exact .inl ⟨rfl, Nat.zero_le _, A, c, hst⟩
  · intro i h W hq
    rcases hq with ⟨rfl, hl, A', c', hq⟩ | ⟨rfl, hl, A', c', hq⟩
    · refine (asks1_of W P M _ (fun e w' h => rdPost_two h) (word_any _ W P M 33 A' c' bs _ 1 0 hq rfl)).mono fun e w' h => ?_
      by_cases hk : 4 ≤ bs.length
      · rw [if_pos hk] at h
        obtain ⟨h1, A2, c2, h4⟩ := h
        skip
        have hk' : 4 ≤ bs.length := by have := hk; omega
        exact .inl ⟨h1, .inr (⟨rfl, hk', A2, c2, h4⟩)⟩
      · rw [if_neg hk] at h
        exact .inr ⟨h.1, fun q => hk (by omega), h.2⟩
    · simp at h
  · intro W hq
    rcases hq with ⟨h, _⟩ | ⟨_, hl, A', c', hq⟩
    · simp at h
    · refine ⟨A', (bs.drop 4).length, c', (hq.pen.cell 0).trans rfl, .inr ⟨(hq.pen.cell 1).trans rfl, fun hm => ⟨fun q => ?_, hq.chg⟩⟩⟩
      simp at hm
      omega
  · intro e w' h
    rcases h with ⟨h1, W, A2, m, c2, hq, p0, p1, hw⟩ | ⟨h1, W, hR, hw⟩
    · rcases hq with ⟨h, _⟩ | ⟨_, hl, A', c', hq⟩
      · simp at h
      · have hp1 := (hq.pen.cell 1).trans (show #[Value.slice A' (bs.drop 4).length c', Value.bool true][1]? = some (.bool true) from rfl)
        have hp0 := (hq.pen.cell 0).trans (show #[Value.slice A' (bs.drop 4).length c', Value.bool true][0]? = some (.slice A' (bs.drop 4).length c') from rfl)
        rw [hp0] at p0
        injection p0 with p0
        injection p0 with _ p0 _
        have hm : m = 0 := p1.elim (fun q => by rw [hp1] at q; injection q with q; injection q with q; cases q) id
        rw [hm] at p0
        simp at p0
        exact .inl ⟨by omega, h1, W, hq.msg, hq.chg, hw⟩
    · exact .inr ⟨hR.1, h1, W, hR.2, hw⟩
set_option maxHeartbeats 3200000 in
theorem ask12_over (wp : World) (P M fb : Nat) (A : Option Addr) (c : Nat) (bs : List UInt8) (hst : RdSt (wp.alloc (.cells #[.bool false] 4)) (wp.alloc (.cells #[.bool false] 4)) P M 33 A c bs #[.int .i64 12, .int .u32 0, .int .i64 0, .slice none 0 0, .int .i64 0, .int .i64 0, .int .i64 0, .int .i64 0, .int .i64 0, .int .i64 0, .int .u32 0, .int .i64 0, .int .i64 0, .int .i64 0, .int .i64 0, .int .i64 0, .int .i64 0]) (hF : Blk wp fb 102 #[.func (.func 48) #[] #[]]) (hP : P < wp.heap.size) (hM : M < wp.heap.size) (hfP : fb ≠ P) (hfM : fb ≠ M) :
    Calls Try.prog 30 #[.pointer (some ⟨P, 0, none⟩), .pointer (some ⟨M, 0, none⟩), .slice (some ⟨fb, 0, none⟩) 1 1] wp fun e w' =>
      ((bs.length = 4) ∧ e = .returned (.bool false) ∧ ∃ W, Blk W M 33 #[.int .i64 12, .int .u32 (beN (bs.take 4) : Int), .int .i64 0, .slice none 0 0, .int .i64 0, .int .i64 0, .int .i64 0, .int .i64 0, .int .i64 0, .int .i64 0, .int .u32 0, .int .i64 0, .int .i64 0, .int .i64 0, .int .i64 0, .int .i64 0, .int .i64 0] ∧ Chg (fun i => i = P ∨ i = M) (wp.alloc (.cells #[.bool false] 4)) W ∧ w' = W.setCell ⟨wp.heap.size, 0, none⟩ (.bool false)) ∨
      (¬ (bs.length = 4) ∧ e = .returned (.bool true) ∧ ∃ W, Chg (fun i => i = P ∨ i = M) (wp.alloc (.cells #[.bool false] 4)) W ∧ w' = (W.alloc (.cells #[] 128)).setCell ⟨wp.heap.size, 0, none⟩ (.bool true)) := by
  have chgE : ∀ W, Chg (fun i => i = P ∨ i = M) (wp.alloc (.cells #[.bool false] 4)) W → W.cell? ⟨wp.heap.size, 0, none⟩ = some (.bool false) ∧ W.frozen? ⟨wp.heap.size, 0, none⟩ = false := fun W hc => by
    have hb : Blk W wp.heap.size 4 #[.bool false] := (Blk.last wp _ _ rfl).chg hc (by omega)
    exact ⟨(hb.cell 0).trans rfl, hb.frozen 0⟩
  have chgQ : ∀ i W, ((i = 0 ∧ 0 ≤ bs.length ∧ ∃ A' c', RdSt (wp.alloc (.cells #[.bool false] 4)) W P M 33 A' c' bs #[.int .i64 12, .int .u32 0, .int .i64 0, .slice none 0 0, .int .i64 0, .int .i64 0, .int .i64 0, .int .i64 0, .int .i64 0, .int .i64 0, .int .u32 0, .int .i64 0, .int .i64 0, .int .i64 0, .int .i64 0, .int .i64 0, .int .i64 0]) ∨ (i = 1 ∧ 4 ≤ bs.length ∧ ∃ A' c', RdSt (wp.alloc (.cells #[.bool false] 4)) W P M 33 A' c' (bs.drop 4) #[.int .i64 12, .int .u32 (beN (bs.take 4) : Int), .int .i64 0, .slice none 0 0, .int .i64 0, .int .i64 0, .int .i64 0, .int .i64 0, .int .i64 0, .int .i64 0, .int .u32 0, .int .i64 0, .int .i64 0, .int .i64 0, .int .i64 0, .int .i64 0, .int .i64 0])) → Chg (fun i => i = P ∨ i = M) (wp.alloc (.cells #[.bool false] 4)) W := fun i W hq => by
    rcases hq with ⟨rfl, hl, A', c', hq⟩ | ⟨rfl, hl, A', c', hq⟩ <;> exact hq.chg
  refine (overQ_gen wp P M fb 0 1 [48]
    (fun i W => (i = 0 ∧ 0 ≤ bs.length ∧ ∃ A' c', RdSt (wp.alloc (.cells #[.bool false] 4)) W P M 33 A' c' bs #[.int .i64 12, .int .u32 0, .int .i64 0, .slice none 0 0, .int .i64 0, .int .i64 0, .int .i64 0, .int .i64 0, .int .i64 0, .int .i64 0, .int .u32 0, .int .i64 0, .int .i64 0, .int .i64 0, .int .i64 0, .int .i64 0, .int .i64 0]) ∨ (i = 1 ∧ 4 ≤ bs.length ∧ ∃ A' c', RdSt (wp.alloc (.cells #[.bool false] 4)) W P M 33 A' c' (bs.drop 4) #[.int .i64 12, .int .u32 (beN (bs.take 4) : Int), .int .i64 0, .slice none 0 0, .int .i64 0, .int .i64 0, .int .i64 0, .int .i64 0, .int .i64 0, .int .i64 0, .int .u32 0, .int .i64 0, .int .i64 0, .int .i64 0, .int .i64 0, .int .i64 0, .int .i64 0]))
    (fun W => ¬ (bs.length = 4) ∧ Chg (fun i => i = P ∨ i = M) (wp.alloc (.cells #[.bool false] 4)) W)
    ?_ ?_ ?_ (fun i W hq => chgE W (chgQ i W hq)) (fun W hR => chgE W hR.2) ?_ ?_ (by simp)).mono ?_
  · intro i h args W
    have : i = 0 := by simp at h; omega
    rcases this with rfl
    · exact enters_of Try.func48 (by kernel_rfl) rfl args W
  · intro i W hq j h
    have hb : Blk W fb 102 #[.func (.func 48) #[] #[]] := (hF.alloc _).chg (chgQ i W hq) (by omega)
    have : j = 0 := by simp at h; omega
    rcases this with rfl
    · exact (hb.cell 0).trans rfl
  · exact .inl ⟨rfl, Nat.zero_le _, A, c, hst⟩
  · intro i h W hq
    rcases hq with ⟨rfl, hl, A', c', hq⟩ | ⟨rfl, hl, A', c', hq⟩
    · refine (asks1_of W P M _ (fun e w' h => rdPost_two h) (word_any _ W P M 33 A' c' bs _ 1 0 hq rfl)).mono fun e w' h => ?_
      by_cases hk : 4 ≤ bs.length
      · rw [if_pos hk] at h
        obtain ⟨h1, A2, c2, h4⟩ := h
        skip
        have hk' : 4 ≤ bs.length := by have := hk; omega
        exact .inl ⟨h1, .inr (⟨rfl, hk', A2, c2, h4⟩)⟩
      · rw [if_neg hk] at h
        exact .inr ⟨h.1, fun q => hk (by omega), h.2⟩
    · simp at h
  · intro W hq
    rcases hq with ⟨h, _⟩ | ⟨_, hl, A', c', hq⟩
    · simp at h
    · refine ⟨A', (bs.drop 4).length, c', (hq.pen.cell 0).trans rfl, .inr ⟨(hq.pen.cell 1).trans rfl, fun hm => ⟨fun q => ?_, hq.chg⟩⟩⟩
      simp at hm
      omega
  · intro e w' h
    rcases h with ⟨h1, W, A2, m, c2, hq, p0, p1, hw⟩ | ⟨h1, W, hR, hw⟩
    · rcases hq with ⟨h, _⟩ | ⟨_, hl, A', c', hq⟩
      · simp at h
      · have hp1 := (hq.pen.cell 1).trans (show #[Value.slice A' (bs.drop 4).length c', Value.bool true][1]? = some (.bool true) from rfl)
        have hp0 := (hq.pen.cell 0).trans (show #[Value.slice A' (bs.drop 4).length c', Value.bool true][0]? = some (.slice A' (bs.drop 4).length c') from rfl)
        rw [hp0] at p0
        injection p0 with p0
        injection p0 with _ p0 _
        have hm : m = 0 := p1.elim (fun q => by rw [hp1] at q; injection q with q; injection q with q; cases q) id
        rw [hm] at p0
        simp at p0
        exact .inl ⟨by omega, h1, W, hq.msg, hq.chg, hw⟩
    · exact .inr ⟨hR.1, h1, W, hR.2, hw⟩
end Go.Proofs.Ytnbcjjgilndlaaa
/- Messages: over the parts of each kind. Helper. -/
namespace Go.Proofs.Ytnbcjjgilndlaaa
open Go.RowKit Go.Shelf
set_option linter.unusedVariables false
set_option linter.unusedSimpArgs false
set_option maxRecDepth 100000
set_option maxHeartbeats 3200000 in
theorem tell1_over (wp : World) (P M fb : Nat) (A : Option Addr) (c : Nat) (bs : List UInt8) (hst : RdSt (wp.alloc (.cells #[.bool false] 4)) (wp.alloc (.cells #[.bool false] 4)) P M 42 A c bs #[.int .i64 1, .int .u32 0, .int .i64 0, .int .i64 0, .slice none 0 0, .int .i64 0, .int .i64 0, .int .i64 0, .int .i64 0, .int .i64 0, .int .i64 0, .int .u32 0, .int .i64 0, .int .i64 0, .int .i64 0, .int .i64 0, .int .i64 0, .int .i64 0]) (hF : Blk wp fb 116 #[.func (.func 65) #[] #[], .func (.func 66) #[] #[], .func (.func 68) #[] #[]]) (hP : P < wp.heap.size) (hM : M < wp.heap.size) (hfP : fb ≠ P) (hfM : fb ≠ M) :
    Calls Try.prog 32 #[.pointer (some ⟨P, 0, none⟩), .pointer (some ⟨M, 0, none⟩), .slice (some ⟨fb, 0, none⟩) 3 3] wp fun e w' =>
      ((bs.length = 13 ∧ beN ((bs.drop 4).take 1) ≤ 16) ∧ e = .returned (.bool false) ∧ ∃ W, Blk W M 42 #[.int .i64 1, .int .u32 (beN (bs.take 4) : Int), .int .i64 (beN ((bs.drop 4).take 1) : Int), .int .i64 (s64 (beN ((bs.drop 5).take 8))), .slice none 0 0, .int .i64 0, .int .i64 0, .int .i64 0, .int .i64 0, .int .i64 0, .int .i64 0, .int .u32 0, .int .i64 0, .int .i64 0, .int .i64 0, .int .i64 0, .int .i64 0, .int .i64 0] ∧ Chg (fun i => i = P ∨ i = M) (wp.alloc (.cells #[.bool false] 4)) W ∧ w' = W.setCell ⟨wp.heap.size, 0, none⟩ (.bool false)) ∨
      (¬ (bs.length = 13 ∧ beN ((bs.drop 4).take 1) ≤ 16) ∧ e = .returned (.bool true) ∧ ∃ W, Chg (fun i => i = P ∨ i = M) (wp.alloc (.cells #[.bool false] 4)) W ∧ w' = (W.alloc (.cells #[] 128)).setCell ⟨wp.heap.size, 0, none⟩ (.bool true)) := by
  have chgE : ∀ W, Chg (fun i => i = P ∨ i = M) (wp.alloc (.cells #[.bool false] 4)) W → W.cell? ⟨wp.heap.size, 0, none⟩ = some (.bool false) ∧ W.frozen? ⟨wp.heap.size, 0, none⟩ = false := fun W hc => by
    have hb : Blk W wp.heap.size 4 #[.bool false] := (Blk.last wp _ _ rfl).chg hc (by omega)
    exact ⟨(hb.cell 0).trans rfl, hb.frozen 0⟩
  have chgQ : ∀ i W, ((i = 0 ∧ 0 ≤ bs.length ∧ ∃ A' c', RdSt (wp.alloc (.cells #[.bool false] 4)) W P M 42 A' c' bs #[.int .i64 1, .int .u32 0, .int .i64 0, .int .i64 0, .slice none 0 0, .int .i64 0, .int .i64 0, .int .i64 0, .int .i64 0, .int .i64 0, .int .i64 0, .int .u32 0, .int .i64 0, .int .i64 0, .int .i64 0, .int .i64 0, .int .i64 0, .int .i64 0]) ∨ (i = 1 ∧ 4 ≤ bs.length ∧ ∃ A' c', RdSt (wp.alloc (.cells #[.bool false] 4)) W P M 42 A' c' (bs.drop 4) #[.int .i64 1, .int .u32 (beN (bs.take 4) : Int), .int .i64 0, .int .i64 0, .slice none 0 0, .int .i64 0, .int .i64 0, .int .i64 0, .int .i64 0, .int .i64 0, .int .i64 0, .int .u32 0, .int .i64 0, .int .i64 0, .int .i64 0, .int .i64 0, .int .i64 0, .int .i64 0]) ∨ (i = 2 ∧ 5 ≤ bs.length ∧ beN ((bs.drop 4).take 1) ≤ 16 ∧ ∃ A' c', RdSt (wp.alloc (.cells #[.bool false] 4)) W P M 42 A' c' (bs.drop 5) #[.int .i64 1, .int .u32 (beN (bs.take 4) : Int), .int .i64 (beN ((bs.drop 4).take 1) : Int), .int .i64 0, .slice none 0 0, .int .i64 0, .int .i64 0, .int .i64 0, .int .i64 0, .int .i64 0, .int .i64 0, .int .u32 0, .int .i64 0, .int .i64 0, .int .i64 0, .int .i64 0, .int .i64 0, .int .i64 0]) ∨ (i = 3 ∧ 13 ≤ bs.length ∧ beN ((bs.drop 4).take 1) ≤ 16 ∧ ∃ A' c', RdSt (wp.alloc (.cells #[.bool false] 4)) W P M 42 A' c' (bs.drop 13) #[.int .i64 1, .int .u32 (beN (bs.take 4) : Int), .int .i64 (beN ((bs.drop 4).take 1) : Int), .int .i64 (s64 (beN ((bs.drop 5).take 8))), .slice none 0 0, .int .i64 0, .int .i64 0, .int .i64 0, .int .i64 0, .int .i64 0, .int .i64 0, .int .u32 0, .int .i64 0, .int .i64 0, .int .i64 0, .int .i64 0, .int .i64 0, .int .i64 0])) → Chg (fun i => i = P ∨ i = M) (wp.alloc (.cells #[.bool false] 4)) W := fun i W hq => by
    rcases hq with ⟨rfl, hl, A', c', hq⟩ | ⟨rfl, hl, A', c', hq⟩ | ⟨rfl, hl, he, A', c', hq⟩ | ⟨rfl, hl, he, A', c', hq⟩ <;> exact hq.chg
  refine (overR_gen wp P M fb 0 3 [65, 66, 68]
    (fun i W => (i = 0 ∧ 0 ≤ bs.length ∧ ∃ A' c', RdSt (wp.alloc (.cells #[.bool false] 4)) W P M 42 A' c' bs #[.int .i64 1, .int .u32 0, .int .i64 0, .int .i64 0, .slice none 0 0, .int .i64 0, .int .i64 0, .int .i64 0, .int .i64 0, .int .i64 0, .int .i64 0, .int .u32 0, .int .i64 0, .int .i64 0, .int .i64 0, .int .i64 0, .int .i64 0, .int .i64 0]) ∨ (i = 1 ∧ 4 ≤ bs.length ∧ ∃ A' c', RdSt (wp.alloc (.cells #[.bool false] 4)) W P M 42 A' c' (bs.drop 4) #[.int .i64 1, .int .u32 (beN (bs.take 4) : Int), .int .i64 0, .int .i64 0, .slice none 0 0, .int .i64 0, .int .i64 0, .int .i64 0, .int .i64 0, .int .i64 0, .int .i64 0, .int .u32 0, .int .i64 0, .int .i64 0, .int .i64 0, .int .i64 0, .int .i64 0, .int .i64 0]) ∨ (i = 2 ∧ 5 ≤ bs.length ∧ beN ((bs.drop 4).take 1) ≤ 16 ∧ ∃ A' c', RdSt (wp.alloc (.cells #[.bool false] 4)) W P M 42 A' c' (bs.drop 5) #[.int .i64 1, .int .u32 (beN (bs.take 4) : Int), .int .i64 (beN ((bs.drop 4).take 1) : Int), .int .i64 0, .slice none 0 0, .int .i64 0, .int .i64 0, .int .i64 0, .int .i64 0, .int .i64 0, .int .i64 0, .int .u32 0, .int .i64 0, .int .i64 0, .int .i64 0, .int .i64 0, .int .i64 0, .int .i64 0]) ∨ (i = 3 ∧ 13 ≤ bs.length ∧ beN ((bs.drop 4).take 1) ≤ 16 ∧ ∃ A' c', RdSt (wp.alloc (.cells #[.bool false] 4)) W P M 42 A' c' (bs.drop 13) #[.int .i64 1, .int .u32 (beN (bs.take 4) : Int), .int .i64 (beN ((bs.drop 4).take 1) : Int), .int .i64 (s64 (beN ((bs.drop 5).take 8))), .slice none 0 0, .int .i64 0, .int .i64 0, .int .i64 0, .int .i64 0, .int .i64 0, .int .i64 0, .int .u32 0, .int .i64 0, .int .i64 0, .int .i64 0, .int .i64 0, .int .i64 0, .int .i64 0]))
    (fun W => ¬ (bs.length = 13 ∧ beN ((bs.drop 4).take 1) ≤ 16) ∧ Chg (fun i => i = P ∨ i = M) (wp.alloc (.cells #[.bool false] 4)) W)
    ?_ ?_ ?_ (fun i W hq => chgE W (chgQ i W hq)) (fun W hR => chgE W hR.2) ?_ ?_ (by simp)).mono ?_
  · intro i h args W
    have : i = 0 ∨ i = 1 ∨ i = 2 := by simp at h; omega
    rcases this with rfl | rfl | rfl
    · exact enters_of Try.func65 (by kernel_rfl) rfl args W
    · exact enters_of Try.func66 (by kernel_rfl) rfl args W
    · exact enters_of Try.func68 (by kernel_rfl) rfl args W
  · intro i W hq j h
    have hb : Blk W fb 116 #[.func (.func 65) #[] #[], .func (.func 66) #[] #[], .func (.func 68) #[] #[]] := (hF.alloc _).chg (chgQ i W hq) (by omega)
    have : j = 0 ∨ j = 1 ∨ j = 2 := by simp at h; omega
    rcases this with rfl | rfl | rfl
    · exact (hb.cell 0).trans rfl
    · exact (hb.cell 1).trans rfl
    · exact (hb.cell 2).trans rfl
  · exact .inl ⟨rfl, Nat.zero_le _, A, c, hst⟩
  · intro i h W hq
    rcases hq with ⟨rfl, hl, A', c', hq⟩ | ⟨rfl, hl, A', c', hq⟩ | ⟨rfl, hl, he, A', c', hq⟩ | ⟨rfl, hl, he, A', c', hq⟩
    · refine (tells1_of W P M _ (fun e w' h => rdPost_two h) (word_any _ W P M 42 A' c' bs _ 1 0 hq rfl)).mono fun e w' h => ?_
      by_cases hk : 4 ≤ bs.length
      · rw [if_pos hk] at h
        obtain ⟨h1, A2, c2, h4⟩ := h
        skip
        have hk' : 4 ≤ bs.length := by have := hk; omega
        exact .inl ⟨h1, .inr (.inl ⟨rfl, hk', A2, c2, h4⟩)⟩
      · rw [if_neg hk] at h
        exact .inr ⟨h.1, fun q => hk (by omega), h.2⟩
    · refine (tells2_of W P M _ (fun e w' h => rdPost_two h) (errno_any _ W P M 42 A' c' (bs.drop 4) _ 2 0 hq rfl)).mono fun e w' h => ?_
      by_cases hk : 1 ≤ (bs.drop 4).length ∧ beN ((bs.drop 4).take 1) ≤ 16
      · rw [if_pos hk] at h
        obtain ⟨h1, A2, c2, h4⟩ := h
        rw [List.drop_drop] at h4
        have hk' : 5 ≤ bs.length := by have := hk.1; simp at this; omega
        exact .inl ⟨h1, .inr (.inr (.inl ⟨rfl, hk', hk.2, A2, c2, h4⟩))⟩
      · rw [if_neg hk] at h
        exact .inr ⟨h.1, fun q => hk ⟨by simp; omega, q.2⟩, h.2⟩
    · refine (tells3_of W P M _ (fun e w' h => rdPost_two h) (long_any _ W P M 42 A' c' (bs.drop 5) _ 3 0 hq rfl)).mono fun e w' h => ?_
      by_cases hk : 8 ≤ (bs.drop 5).length
      · rw [if_pos hk] at h
        obtain ⟨h1, A2, c2, h4⟩ := h
        rw [List.drop_drop] at h4
        have hk' : 13 ≤ bs.length := by have := hk; simp at this; omega
        exact .inl ⟨h1, .inr (.inr (.inr (⟨rfl, hk', he, A2, c2, h4⟩)))⟩
      · rw [if_neg hk] at h
        exact .inr ⟨h.1, fun q => hk (by simp; omega), h.2⟩
    · simp at h
  · intro W hq
    rcases hq with ⟨h, _⟩ | ⟨h, _⟩ | ⟨h, _⟩ | ⟨_, hl, he, A', c', hq⟩
    · simp at h
    · simp at h
    · simp at h
    · refine ⟨A', (bs.drop 13).length, c', (hq.pen.cell 0).trans rfl, .inr ⟨(hq.pen.cell 1).trans rfl, fun hm => ⟨fun q => ?_, hq.chg⟩⟩⟩
      simp at hm
      have := q.1; omega
  · intro e w' h
    rcases h with ⟨h1, W, A2, m, c2, hq, p0, p1, hw⟩ | ⟨h1, W, hR, hw⟩
    · rcases hq with ⟨h, _⟩ | ⟨h, _⟩ | ⟨h, _⟩ | ⟨_, hl, he, A', c', hq⟩
      · simp at h
      · simp at h
      · simp at h
      · have hp1 := (hq.pen.cell 1).trans (show #[Value.slice A' (bs.drop 13).length c', Value.bool true][1]? = some (.bool true) from rfl)
        have hp0 := (hq.pen.cell 0).trans (show #[Value.slice A' (bs.drop 13).length c', Value.bool true][0]? = some (.slice A' (bs.drop 13).length c') from rfl)
        rw [hp0] at p0
        injection p0 with p0
        injection p0 with _ p0 _
        have hm : m = 0 := p1.elim (fun q => by rw [hp1] at q; injection q with q; injection q with q; cases q) id
        rw [hm] at p0
        simp at p0
        exact .inl ⟨⟨by omega, he⟩, h1, W, hq.msg, hq.chg, hw⟩
    · exact .inr ⟨hR.1, h1, W, hR.2, hw⟩
set_option maxHeartbeats 3200000 in
theorem tell3_over (wp : World) (P M fb : Nat) (A : Option Addr) (c : Nat) (bs : List UInt8) (hst : RdSt (wp.alloc (.cells #[.bool false] 4)) (wp.alloc (.cells #[.bool false] 4)) P M 42 A c bs #[.int .i64 3, .int .u32 0, .int .i64 0, .int .i64 0, .slice none 0 0, .int .i64 0, .int .i64 0, .int .i64 0, .int .i64 0, .int .i64 0, .int .i64 0, .int .u32 0, .int .i64 0, .int .i64 0, .int .i64 0, .int .i64 0, .int .i64 0, .int .i64 0]) (hF : Blk wp fb 116 #[.func (.func 71) #[] #[]]) (hP : P < wp.heap.size) (hM : M < wp.heap.size) (hfP : fb ≠ P) (hfM : fb ≠ M) :
    Calls Try.prog 32 #[.pointer (some ⟨P, 0, none⟩), .pointer (some ⟨M, 0, none⟩), .slice (some ⟨fb, 0, none⟩) 1 1] wp fun e w' =>
      ((bs.length = 27) ∧ e = .returned (.bool false) ∧ ∃ W, Blk W M 42 #[.int .i64 3, .int .u32 0, .int .i64 0, .int .i64 0, .slice none 0 0, .int .i64 (s64 (beN (bs.take 8))), .int .i64 (beN ((bs.drop 8).take 1) : Int), .int .i64 (s64 (beN ((bs.drop 9).take 8))), .int .i64 (beN ((bs.drop 17).take 1) : Int), .int .i64 (beN ((bs.drop 18).take 1) : Int), .int .i64 (s64 (beN ((bs.drop 19).take 8))), .int .u32 0, .int .i64 0, .int .i64 0, .int .i64 0, .int .i64 0, .int .i64 0, .int .i64 0] ∧ Chg (fun i => i = P ∨ i = M) (wp.alloc (.cells #[.bool false] 4)) W ∧ w' = W.setCell ⟨wp.heap.size, 0, none⟩ (.bool false)) ∨
      (¬ (bs.length = 27) ∧ e = .returned (.bool true) ∧ ∃ W, Chg (fun i => i = P ∨ i = M) (wp.alloc (.cells #[.bool false] 4)) W ∧ w' = (W.alloc (.cells #[] 128)).setCell ⟨wp.heap.size, 0, none⟩ (.bool true)) := by
  have chgE : ∀ W, Chg (fun i => i = P ∨ i = M) (wp.alloc (.cells #[.bool false] 4)) W → W.cell? ⟨wp.heap.size, 0, none⟩ = some (.bool false) ∧ W.frozen? ⟨wp.heap.size, 0, none⟩ = false := fun W hc => by
    have hb : Blk W wp.heap.size 4 #[.bool false] := (Blk.last wp _ _ rfl).chg hc (by omega)
    exact ⟨(hb.cell 0).trans rfl, hb.frozen 0⟩
  have chgQ : ∀ i W, ((i = 0 ∧ 0 ≤ bs.length ∧ ∃ A' c', RdSt (wp.alloc (.cells #[.bool false] 4)) W P M 42 A' c' bs #[.int .i64 3, .int .u32 0, .int .i64 0, .int .i64 0, .slice none 0 0, .int .i64 0, .int .i64 0, .int .i64 0, .int .i64 0, .int .i64 0, .int .i64 0, .int .u32 0, .int .i64 0, .int .i64 0, .int .i64 0, .int .i64 0, .int .i64 0, .int .i64 0]) ∨ (i = 1 ∧ 27 ≤ bs.length ∧ ∃ A' c', RdSt (wp.alloc (.cells #[.bool false] 4)) W P M 42 A' c' (bs.drop 27) #[.int .i64 3, .int .u32 0, .int .i64 0, .int .i64 0, .slice none 0 0, .int .i64 (s64 (beN (bs.take 8))), .int .i64 (beN ((bs.drop 8).take 1) : Int), .int .i64 (s64 (beN ((bs.drop 9).take 8))), .int .i64 (beN ((bs.drop 17).take 1) : Int), .int .i64 (beN ((bs.drop 18).take 1) : Int), .int .i64 (s64 (beN ((bs.drop 19).take 8))), .int .u32 0, .int .i64 0, .int .i64 0, .int .i64 0, .int .i64 0, .int .i64 0, .int .i64 0])) → Chg (fun i => i = P ∨ i = M) (wp.alloc (.cells #[.bool false] 4)) W := fun i W hq => by
    rcases hq with ⟨rfl, hl, A', c', hq⟩ | ⟨rfl, hl, A', c', hq⟩ <;> exact hq.chg
  refine (overR_gen wp P M fb 0 1 [71]
    (fun i W => (i = 0 ∧ 0 ≤ bs.length ∧ ∃ A' c', RdSt (wp.alloc (.cells #[.bool false] 4)) W P M 42 A' c' bs #[.int .i64 3, .int .u32 0, .int .i64 0, .int .i64 0, .slice none 0 0, .int .i64 0, .int .i64 0, .int .i64 0, .int .i64 0, .int .i64 0, .int .i64 0, .int .u32 0, .int .i64 0, .int .i64 0, .int .i64 0, .int .i64 0, .int .i64 0, .int .i64 0]) ∨ (i = 1 ∧ 27 ≤ bs.length ∧ ∃ A' c', RdSt (wp.alloc (.cells #[.bool false] 4)) W P M 42 A' c' (bs.drop 27) #[.int .i64 3, .int .u32 0, .int .i64 0, .int .i64 0, .slice none 0 0, .int .i64 (s64 (beN (bs.take 8))), .int .i64 (beN ((bs.drop 8).take 1) : Int), .int .i64 (s64 (beN ((bs.drop 9).take 8))), .int .i64 (beN ((bs.drop 17).take 1) : Int), .int .i64 (beN ((bs.drop 18).take 1) : Int), .int .i64 (s64 (beN ((bs.drop 19).take 8))), .int .u32 0, .int .i64 0, .int .i64 0, .int .i64 0, .int .i64 0, .int .i64 0, .int .i64 0]))
    (fun W => ¬ (bs.length = 27) ∧ Chg (fun i => i = P ∨ i = M) (wp.alloc (.cells #[.bool false] 4)) W)
    ?_ ?_ ?_ (fun i W hq => chgE W (chgQ i W hq)) (fun W hR => chgE W hR.2) ?_ ?_ (by simp)).mono ?_
  · intro i h args W
    have : i = 0 := by simp at h; omega
    rcases this with rfl
    · exact enters_of Try.func71 (by kernel_rfl) rfl args W
  · intro i W hq j h
    have hb : Blk W fb 116 #[.func (.func 71) #[] #[]] := (hF.alloc _).chg (chgQ i W hq) (by omega)
    have : j = 0 := by simp at h; omega
    rcases this with rfl
    · exact (hb.cell 0).trans rfl
  · exact .inl ⟨rfl, Nat.zero_le _, A, c, hst⟩
  · intro i h W hq
    rcases hq with ⟨rfl, hl, A', c', hq⟩ | ⟨rfl, hl, A', c', hq⟩
    · refine (tells5_of W P M _ (fun e w' h => rdPost_two h) (record_any _ W P M 42 A' c' bs _ 5 0 0 0 0 0 0 hq rfl rfl rfl rfl rfl rfl)).mono fun e w' h => ?_
      by_cases hk : 27 ≤ bs.length
      · rw [if_pos hk] at h
        obtain ⟨h1, A2, c2, h4⟩ := h
        skip
        have hk' : 27 ≤ bs.length := by have := hk; omega
        exact .inl ⟨h1, .inr (⟨rfl, hk', A2, c2, by simpa [pointC, List.drop_drop] using h4⟩)⟩
      · rw [if_neg hk] at h
        exact .inr ⟨h.1, fun q => hk (by omega), h.2⟩
    · simp at h
  · intro W hq
    rcases hq with ⟨h, _⟩ | ⟨_, hl, A', c', hq⟩
    · simp at h
    · refine ⟨A', (bs.drop 27).length, c', (hq.pen.cell 0).trans rfl, .inr ⟨(hq.pen.cell 1).trans rfl, fun hm => ⟨fun q => ?_, hq.chg⟩⟩⟩
      simp at hm
      omega
  · intro e w' h
    rcases h with ⟨h1, W, A2, m, c2, hq, p0, p1, hw⟩ | ⟨h1, W, hR, hw⟩
    · rcases hq with ⟨h, _⟩ | ⟨_, hl, A', c', hq⟩
      · simp at h
      · have hp1 := (hq.pen.cell 1).trans (show #[Value.slice A' (bs.drop 27).length c', Value.bool true][1]? = some (.bool true) from rfl)
        have hp0 := (hq.pen.cell 0).trans (show #[Value.slice A' (bs.drop 27).length c', Value.bool true][0]? = some (.slice A' (bs.drop 27).length c') from rfl)
        rw [hp0] at p0
        injection p0 with p0
        injection p0 with _ p0 _
        have hm : m = 0 := p1.elim (fun q => by rw [hp1] at q; injection q with q; injection q with q; cases q) id
        rw [hm] at p0
        simp at p0
        exact .inl ⟨by omega, h1, W, hq.msg, hq.chg, hw⟩
    · exact .inr ⟨hR.1, h1, W, hR.2, hw⟩
set_option maxHeartbeats 3200000 in
theorem tell4_over (wp : World) (P M fb : Nat) (A : Option Addr) (c : Nat) (bs : List UInt8) (hst : RdSt (wp.alloc (.cells #[.bool false] 4)) (wp.alloc (.cells #[.bool false] 4)) P M 42 A c bs #[.int .i64 4, .int .u32 0, .int .i64 0, .int .i64 0, .slice none 0 0, .int .i64 0, .int .i64 0, .int .i64 0, .int .i64 0, .int .i64 0, .int .i64 0, .int .u32 0, .int .i64 0, .int .i64 0, .int .i64 0, .int .i64 0, .int .i64 0, .int .i64 0]) (hF : Blk wp fb 116 #[.func (.func 73) #[] #[], .func (.func 74) #[] #[]]) (hP : P < wp.heap.size) (hM : M < wp.heap.size) (hfP : fb ≠ P) (hfM : fb ≠ M) :
    Calls Try.prog 32 #[.pointer (some ⟨P, 0, none⟩), .pointer (some ⟨M, 0, none⟩), .slice (some ⟨fb, 0, none⟩) 2 2] wp fun e w' =>
      ((bs.length = 31) ∧ e = .returned (.bool false) ∧ ∃ W, Blk W M 42 #[.int .i64 4, .int .u32 0, .int .i64 0, .int .i64 0, .slice none 0 0, .int .i64 0, .int .i64 0, .int .i64 0, .int .i64 0, .int .i64 0, .int .i64 0, .int .u32 (beN (bs.take 4) : Int), .int .i64 (s64 (beN ((bs.drop 4).take 8))), .int .i64 (beN ((bs.drop 12).take 1) : Int), .int .i64 (s64 (beN ((bs.drop 13).take 8))), .int .i64 (beN ((bs.drop 21).take 1) : Int), .int .i64 (beN ((bs.drop 22).take 1) : Int), .int .i64 (s64 (beN ((bs.drop 23).take 8)))] ∧ Chg (fun i => i = P ∨ i = M) (wp.alloc (.cells #[.bool false] 4)) W ∧ w' = W.setCell ⟨wp.heap.size, 0, none⟩ (.bool false)) ∨
      (¬ (bs.length = 31) ∧ e = .returned (.bool true) ∧ ∃ W, Chg (fun i => i = P ∨ i = M) (wp.alloc (.cells #[.bool false] 4)) W ∧ w' = (W.alloc (.cells #[] 128)).setCell ⟨wp.heap.size, 0, none⟩ (.bool true)) := by
  have chgE : ∀ W, Chg (fun i => i = P ∨ i = M) (wp.alloc (.cells #[.bool false] 4)) W → W.cell? ⟨wp.heap.size, 0, none⟩ = some (.bool false) ∧ W.frozen? ⟨wp.heap.size, 0, none⟩ = false := fun W hc => by
    have hb : Blk W wp.heap.size 4 #[.bool false] := (Blk.last wp _ _ rfl).chg hc (by omega)
    exact ⟨(hb.cell 0).trans rfl, hb.frozen 0⟩
  have chgQ : ∀ i W, ((i = 0 ∧ 0 ≤ bs.length ∧ ∃ A' c', RdSt (wp.alloc (.cells #[.bool false] 4)) W P M 42 A' c' bs #[.int .i64 4, .int .u32 0, .int .i64 0, .int .i64 0, .slice none 0 0, .int .i64 0, .int .i64 0, .int .i64 0, .int .i64 0, .int .i64 0, .int .i64 0, .int .u32 0, .int .i64 0, .int .i64 0, .int .i64 0, .int .i64 0, .int .i64 0, .int .i64 0]) ∨ (i = 1 ∧ 4 ≤ bs.length ∧ ∃ A' c', RdSt (wp.alloc (.cells #[.bool false] 4)) W P M 42 A' c' (bs.drop 4) #[.int .i64 4, .int .u32 0, .int .i64 0, .int .i64 0, .slice none 0 0, .int .i64 0, .int .i64 0, .int .i64 0, .int .i64 0, .int .i64 0, .int .i64 0, .int .u32 (beN (bs.take 4) : Int), .int .i64 0, .int .i64 0, .int .i64 0, .int .i64 0, .int .i64 0, .int .i64 0]) ∨ (i = 2 ∧ 31 ≤ bs.length ∧ ∃ A' c', RdSt (wp.alloc (.cells #[.bool false] 4)) W P M 42 A' c' (bs.drop 31) #[.int .i64 4, .int .u32 0, .int .i64 0, .int .i64 0, .slice none 0 0, .int .i64 0, .int .i64 0, .int .i64 0, .int .i64 0, .int .i64 0, .int .i64 0, .int .u32 (beN (bs.take 4) : Int), .int .i64 (s64 (beN ((bs.drop 4).take 8))), .int .i64 (beN ((bs.drop 12).take 1) : Int), .int .i64 (s64 (beN ((bs.drop 13).take 8))), .int .i64 (beN ((bs.drop 21).take 1) : Int), .int .i64 (beN ((bs.drop 22).take 1) : Int), .int .i64 (s64 (beN ((bs.drop 23).take 8)))])) → Chg (fun i => i = P ∨ i = M) (wp.alloc (.cells #[.bool false] 4)) W := fun i W hq => by
    rcases hq with ⟨rfl, hl, A', c', hq⟩ | ⟨rfl, hl, A', c', hq⟩ | ⟨rfl, hl, A', c', hq⟩ <;> exact hq.chg
  refine (overR_gen wp P M fb 0 2 [73, 74]
    (fun i W => (i = 0 ∧ 0 ≤ bs.length ∧ ∃ A' c', RdSt (wp.alloc (.cells #[.bool false] 4)) W P M 42 A' c' bs #[.int .i64 4, .int .u32 0, .int .i64 0, .int .i64 0, .slice none 0 0, .int .i64 0, .int .i64 0, .int .i64 0, .int .i64 0, .int .i64 0, .int .i64 0, .int .u32 0, .int .i64 0, .int .i64 0, .int .i64 0, .int .i64 0, .int .i64 0, .int .i64 0]) ∨ (i = 1 ∧ 4 ≤ bs.length ∧ ∃ A' c', RdSt (wp.alloc (.cells #[.bool false] 4)) W P M 42 A' c' (bs.drop 4) #[.int .i64 4, .int .u32 0, .int .i64 0, .int .i64 0, .slice none 0 0, .int .i64 0, .int .i64 0, .int .i64 0, .int .i64 0, .int .i64 0, .int .i64 0, .int .u32 (beN (bs.take 4) : Int), .int .i64 0, .int .i64 0, .int .i64 0, .int .i64 0, .int .i64 0, .int .i64 0]) ∨ (i = 2 ∧ 31 ≤ bs.length ∧ ∃ A' c', RdSt (wp.alloc (.cells #[.bool false] 4)) W P M 42 A' c' (bs.drop 31) #[.int .i64 4, .int .u32 0, .int .i64 0, .int .i64 0, .slice none 0 0, .int .i64 0, .int .i64 0, .int .i64 0, .int .i64 0, .int .i64 0, .int .i64 0, .int .u32 (beN (bs.take 4) : Int), .int .i64 (s64 (beN ((bs.drop 4).take 8))), .int .i64 (beN ((bs.drop 12).take 1) : Int), .int .i64 (s64 (beN ((bs.drop 13).take 8))), .int .i64 (beN ((bs.drop 21).take 1) : Int), .int .i64 (beN ((bs.drop 22).take 1) : Int), .int .i64 (s64 (beN ((bs.drop 23).take 8)))]))
    (fun W => ¬ (bs.length = 31) ∧ Chg (fun i => i = P ∨ i = M) (wp.alloc (.cells #[.bool false] 4)) W)
    ?_ ?_ ?_ (fun i W hq => chgE W (chgQ i W hq)) (fun W hR => chgE W hR.2) ?_ ?_ (by simp)).mono ?_
  · intro i h args W
    have : i = 0 ∨ i = 1 := by simp at h; omega
    rcases this with rfl | rfl
    · exact enters_of Try.func73 (by kernel_rfl) rfl args W
    · exact enters_of Try.func74 (by kernel_rfl) rfl args W
  · intro i W hq j h
    have hb : Blk W fb 116 #[.func (.func 73) #[] #[], .func (.func 74) #[] #[]] := (hF.alloc _).chg (chgQ i W hq) (by omega)
    have : j = 0 ∨ j = 1 := by simp at h; omega
    rcases this with rfl | rfl
    · exact (hb.cell 0).trans rfl
    · exact (hb.cell 1).trans rfl
  · exact .inl ⟨rfl, Nat.zero_le _, A, c, hst⟩
  · intro i h W hq
    rcases hq with ⟨rfl, hl, A', c', hq⟩ | ⟨rfl, hl, A', c', hq⟩ | ⟨rfl, hl, A', c', hq⟩
    · refine (tells6_of W P M _ (fun e w' h => rdPost_two h) (word_any _ W P M 42 A' c' bs _ 11 0 hq rfl)).mono fun e w' h => ?_
      by_cases hk : 4 ≤ bs.length
      · rw [if_pos hk] at h
        obtain ⟨h1, A2, c2, h4⟩ := h
        skip
        have hk' : 4 ≤ bs.length := by have := hk; omega
        exact .inl ⟨h1, .inr (.inl ⟨rfl, hk', A2, c2, h4⟩)⟩
      · rw [if_neg hk] at h
        exact .inr ⟨h.1, fun q => hk (by omega), h.2⟩
    · refine (tells7_of W P M _ (fun e w' h => rdPost_two h) (event_any _ W P M 42 A' c' (bs.drop 4) _ 12 0 0 0 0 0 0 hq rfl rfl rfl rfl rfl rfl)).mono fun e w' h => ?_
      by_cases hk : 27 ≤ (bs.drop 4).length
      · rw [if_pos hk] at h
        obtain ⟨h1, A2, c2, h4⟩ := h
        rw [List.drop_drop] at h4
        have hk' : 31 ≤ bs.length := by have := hk; simp at this; omega
        exact .inl ⟨h1, .inr (.inr (⟨rfl, hk', A2, c2, by simpa [pointC, List.drop_drop] using h4⟩))⟩
      · rw [if_neg hk] at h
        exact .inr ⟨h.1, fun q => hk (by simp; omega), h.2⟩
    · simp at h
  · intro W hq
    rcases hq with ⟨h, _⟩ | ⟨h, _⟩ | ⟨_, hl, A', c', hq⟩
    · simp at h
    · simp at h
    · refine ⟨A', (bs.drop 31).length, c', (hq.pen.cell 0).trans rfl, .inr ⟨(hq.pen.cell 1).trans rfl, fun hm => ⟨fun q => ?_, hq.chg⟩⟩⟩
      simp at hm
      omega
  · intro e w' h
    rcases h with ⟨h1, W, A2, m, c2, hq, p0, p1, hw⟩ | ⟨h1, W, hR, hw⟩
    · rcases hq with ⟨h, _⟩ | ⟨h, _⟩ | ⟨_, hl, A', c', hq⟩
      · simp at h
      · simp at h
      · have hp1 := (hq.pen.cell 1).trans (show #[Value.slice A' (bs.drop 31).length c', Value.bool true][1]? = some (.bool true) from rfl)
        have hp0 := (hq.pen.cell 0).trans (show #[Value.slice A' (bs.drop 31).length c', Value.bool true][0]? = some (.slice A' (bs.drop 31).length c') from rfl)
        rw [hp0] at p0
        injection p0 with p0
        injection p0 with _ p0 _
        have hm : m = 0 := p1.elim (fun q => by rw [hp1] at q; injection q with q; injection q with q; cases q) id
        rw [hm] at p0
        simp at p0
        exact .inl ⟨by omega, h1, W, hq.msg, hq.chg, hw⟩
    · exact .inr ⟨hR.1, h1, W, hR.2, hw⟩
set_option maxHeartbeats 3200000 in
theorem tell5_over (wp : World) (P M fb : Nat) (A : Option Addr) (c : Nat) (bs : List UInt8) (hst : RdSt (wp.alloc (.cells #[.bool false] 4)) (wp.alloc (.cells #[.bool false] 4)) P M 42 A c bs #[.int .i64 5, .int .u32 0, .int .i64 0, .int .i64 0, .slice none 0 0, .int .i64 0, .int .i64 0, .int .i64 0, .int .i64 0, .int .i64 0, .int .i64 0, .int .u32 0, .int .i64 0, .int .i64 0, .int .i64 0, .int .i64 0, .int .i64 0, .int .i64 0]) (hF : Blk wp fb 116 #[.func (.func 66) #[] #[]]) (hP : P < wp.heap.size) (hM : M < wp.heap.size) (hfP : fb ≠ P) (hfM : fb ≠ M) :
    Calls Try.prog 32 #[.pointer (some ⟨P, 0, none⟩), .pointer (some ⟨M, 0, none⟩), .slice (some ⟨fb, 0, none⟩) 1 1] wp fun e w' =>
      ((bs.length = 1 ∧ beN (bs.take 1) ≤ 16) ∧ e = .returned (.bool false) ∧ ∃ W, Blk W M 42 #[.int .i64 5, .int .u32 0, .int .i64 (beN (bs.take 1) : Int), .int .i64 0, .slice none 0 0, .int .i64 0, .int .i64 0, .int .i64 0, .int .i64 0, .int .i64 0, .int .i64 0, .int .u32 0, .int .i64 0, .int .i64 0, .int .i64 0, .int .i64 0, .int .i64 0, .int .i64 0] ∧ Chg (fun i => i = P ∨ i = M) (wp.alloc (.cells #[.bool false] 4)) W ∧ w' = W.setCell ⟨wp.heap.size, 0, none⟩ (.bool false)) ∨
      (¬ (bs.length = 1 ∧ beN (bs.take 1) ≤ 16) ∧ e = .returned (.bool true) ∧ ∃ W, Chg (fun i => i = P ∨ i = M) (wp.alloc (.cells #[.bool false] 4)) W ∧ w' = (W.alloc (.cells #[] 128)).setCell ⟨wp.heap.size, 0, none⟩ (.bool true)) := by
  have chgE : ∀ W, Chg (fun i => i = P ∨ i = M) (wp.alloc (.cells #[.bool false] 4)) W → W.cell? ⟨wp.heap.size, 0, none⟩ = some (.bool false) ∧ W.frozen? ⟨wp.heap.size, 0, none⟩ = false := fun W hc => by
    have hb : Blk W wp.heap.size 4 #[.bool false] := (Blk.last wp _ _ rfl).chg hc (by omega)
    exact ⟨(hb.cell 0).trans rfl, hb.frozen 0⟩
  have chgQ : ∀ i W, ((i = 0 ∧ 0 ≤ bs.length ∧ ∃ A' c', RdSt (wp.alloc (.cells #[.bool false] 4)) W P M 42 A' c' bs #[.int .i64 5, .int .u32 0, .int .i64 0, .int .i64 0, .slice none 0 0, .int .i64 0, .int .i64 0, .int .i64 0, .int .i64 0, .int .i64 0, .int .i64 0, .int .u32 0, .int .i64 0, .int .i64 0, .int .i64 0, .int .i64 0, .int .i64 0, .int .i64 0]) ∨ (i = 1 ∧ 1 ≤ bs.length ∧ beN (bs.take 1) ≤ 16 ∧ ∃ A' c', RdSt (wp.alloc (.cells #[.bool false] 4)) W P M 42 A' c' (bs.drop 1) #[.int .i64 5, .int .u32 0, .int .i64 (beN (bs.take 1) : Int), .int .i64 0, .slice none 0 0, .int .i64 0, .int .i64 0, .int .i64 0, .int .i64 0, .int .i64 0, .int .i64 0, .int .u32 0, .int .i64 0, .int .i64 0, .int .i64 0, .int .i64 0, .int .i64 0, .int .i64 0])) → Chg (fun i => i = P ∨ i = M) (wp.alloc (.cells #[.bool false] 4)) W := fun i W hq => by
    rcases hq with ⟨rfl, hl, A', c', hq⟩ | ⟨rfl, hl, he, A', c', hq⟩ <;> exact hq.chg
  refine (overR_gen wp P M fb 0 1 [66]
    (fun i W => (i = 0 ∧ 0 ≤ bs.length ∧ ∃ A' c', RdSt (wp.alloc (.cells #[.bool false] 4)) W P M 42 A' c' bs #[.int .i64 5, .int .u32 0, .int .i64 0, .int .i64 0, .slice none 0 0, .int .i64 0, .int .i64 0, .int .i64 0, .int .i64 0, .int .i64 0, .int .i64 0, .int .u32 0, .int .i64 0, .int .i64 0, .int .i64 0, .int .i64 0, .int .i64 0, .int .i64 0]) ∨ (i = 1 ∧ 1 ≤ bs.length ∧ beN (bs.take 1) ≤ 16 ∧ ∃ A' c', RdSt (wp.alloc (.cells #[.bool false] 4)) W P M 42 A' c' (bs.drop 1) #[.int .i64 5, .int .u32 0, .int .i64 (beN (bs.take 1) : Int), .int .i64 0, .slice none 0 0, .int .i64 0, .int .i64 0, .int .i64 0, .int .i64 0, .int .i64 0, .int .i64 0, .int .u32 0, .int .i64 0, .int .i64 0, .int .i64 0, .int .i64 0, .int .i64 0, .int .i64 0]))
    (fun W => ¬ (bs.length = 1 ∧ beN (bs.take 1) ≤ 16) ∧ Chg (fun i => i = P ∨ i = M) (wp.alloc (.cells #[.bool false] 4)) W)
    ?_ ?_ ?_ (fun i W hq => chgE W (chgQ i W hq)) (fun W hR => chgE W hR.2) ?_ ?_ (by simp)).mono ?_
  · intro i h args W
    have : i = 0 := by simp at h; omega
    rcases this with rfl
    · exact enters_of Try.func66 (by kernel_rfl) rfl args W
  · intro i W hq j h
    have hb : Blk W fb 116 #[.func (.func 66) #[] #[]] := (hF.alloc _).chg (chgQ i W hq) (by omega)
    have : j = 0 := by simp at h; omega
    rcases this with rfl
    · exact (hb.cell 0).trans rfl
  · exact .inl ⟨rfl, Nat.zero_le _, A, c, hst⟩
  · intro i h W hq
    rcases hq with ⟨rfl, hl, A', c', hq⟩ | ⟨rfl, hl, he, A', c', hq⟩
    · refine (tells2_of W P M _ (fun e w' h => rdPost_two h) (errno_any _ W P M 42 A' c' bs _ 2 0 hq rfl)).mono fun e w' h => ?_
      by_cases hk : 1 ≤ bs.length ∧ beN (bs.take 1) ≤ 16
      · rw [if_pos hk] at h
        obtain ⟨h1, A2, c2, h4⟩ := h
        skip
        have hk' : 1 ≤ bs.length := by have := hk.1; omega
        exact .inl ⟨h1, .inr (⟨rfl, hk', hk.2, A2, c2, h4⟩)⟩
      · rw [if_neg hk] at h
        exact .inr ⟨h.1, fun q => hk ⟨by omega, q.2⟩, h.2⟩
    · simp at h
  · intro W hq
    rcases hq with ⟨h, _⟩ | ⟨_, hl, he, A', c', hq⟩
    · simp at h
    · refine ⟨A', (bs.drop 1).length, c', (hq.pen.cell 0).trans rfl, .inr ⟨(hq.pen.cell 1).trans rfl, fun hm => ⟨fun q => ?_, hq.chg⟩⟩⟩
      simp at hm
      have := q.1; omega
  · intro e w' h
    rcases h with ⟨h1, W, A2, m, c2, hq, p0, p1, hw⟩ | ⟨h1, W, hR, hw⟩
    · rcases hq with ⟨h, _⟩ | ⟨_, hl, he, A', c', hq⟩
      · simp at h
      · have hp1 := (hq.pen.cell 1).trans (show #[Value.slice A' (bs.drop 1).length c', Value.bool true][1]? = some (.bool true) from rfl)
        have hp0 := (hq.pen.cell 0).trans (show #[Value.slice A' (bs.drop 1).length c', Value.bool true][0]? = some (.slice A' (bs.drop 1).length c') from rfl)
        rw [hp0] at p0
        injection p0 with p0
        injection p0 with _ p0 _
        have hm : m = 0 := p1.elim (fun q => by rw [hp1] at q; injection q with q; injection q with q; cases q) id
        rw [hm] at p0
        simp at p0
        exact .inl ⟨⟨by omega, he⟩, h1, W, hq.msg, hq.chg, hw⟩
    · exact .inr ⟨hR.1, h1, W, hR.2, hw⟩
end Go.Proofs.Ytnbcjjgilndlaaa
/- Messages: over the parts of a request with a model. Helper. -/
namespace Go.Proofs.Ytnbcjjgilndlaaa
open Go.RowKit Go.Shelf
set_option linter.unusedVariables false
set_option linter.unusedSimpArgs false
set_option maxRecDepth 100000
set_option maxHeartbeats 3200000
theorem ask2_over (wp : World) (P M fb : Nat) (A : Option Addr) (c : Nat) (bs : List UInt8) (hlb : bs.length ≤ 1000000) (hst : RdSt (wp.alloc (.cells #[.bool false] 4)) (wp.alloc (.cells #[.bool false] 4)) P M 33 A c bs #[.int .i64 2, .int .u32 0, .int .i64 0, .slice none 0 0, .int .i64 0, .int .i64 0, .int .i64 0, .int .i64 0, .int .i64 0, .int .i64 0, .int .u32 0, .int .i64 0, .int .i64 0, .int .i64 0, .int .i64 0, .int .i64 0, .int .i64 0]) (hF : Blk wp fb 102 #[.func (.func 48) #[] #[], .func (.func 52) #[] #[]]) (hP : P < wp.heap.size) (hM : M < wp.heap.size) (hfP : fb ≠ P) (hfM : fb ≠ M) :
    Calls Try.prog 30 #[.pointer (some ⟨P, 0, none⟩), .pointer (some ⟨M, 0, none⟩), .slice (some ⟨fb, 0, none⟩) 2 2] wp fun e w' =>
      ((5 ≤ bs.length ∧ bs.length ≤ 4095) ∧ e = .returned (.bool false) ∧ ∃ W A' c', Blk W M 33 #[.int .i64 2, .int .u32 (beN (bs.take 4) : Int), .int .i64 0, .slice A' (bs.drop 4).length c', .int .i64 0, .int .i64 0, .int .i64 0, .int .i64 0, .int .i64 0, .int .i64 0, .int .u32 0, .int .i64 0, .int .i64 0, .int .i64 0, .int .i64 0, .int .i64 0, .int .i64 0] ∧ BytesAt W A' (bs.drop 4) ∧ (∃ g x, A' = some ⟨g, x, none⟩ ∧ wp.heap.size + 1 ≤ g) ∧ Chg (fun i => i = P ∨ i = M) (wp.alloc (.cells #[.bool false] 4)) W ∧ w' = W.setCell ⟨wp.heap.size, 0, none⟩ (.bool false)) ∨
      (¬ (5 ≤ bs.length ∧ bs.length ≤ 4095) ∧ e = .returned (.bool true) ∧ ∃ W, Chg (fun i => i = P ∨ i = M) (wp.alloc (.cells #[.bool false] 4)) W ∧ w' = (W.alloc (.cells #[] 128)).setCell ⟨wp.heap.size, 0, none⟩ (.bool true)) := by
  have chgE : ∀ W, Chg (fun i => i = P ∨ i = M) (wp.alloc (.cells #[.bool false] 4)) W → W.cell? ⟨wp.heap.size, 0, none⟩ = some (.bool false) ∧ W.frozen? ⟨wp.heap.size, 0, none⟩ = false := fun W hc => by
    have hb : Blk W wp.heap.size 4 #[.bool false] := (Blk.last wp _ _ rfl).chg hc (by omega)
    exact ⟨(hb.cell 0).trans rfl, hb.frozen 0⟩
  have chgQ : ∀ i W, ((i = 0 ∧ ∃ A' c', RdSt (wp.alloc (.cells #[.bool false] 4)) W P M 33 A' c' bs #[.int .i64 2, .int .u32 0, .int .i64 0, .slice none 0 0, .int .i64 0, .int .i64 0, .int .i64 0, .int .i64 0, .int .i64 0, .int .i64 0, .int .u32 0, .int .i64 0, .int .i64 0, .int .i64 0, .int .i64 0, .int .i64 0, .int .i64 0]) ∨ (i = 1 ∧ 4 ≤ bs.length ∧ ∃ A' c', RdSt (wp.alloc (.cells #[.bool false] 4)) W P M 33 A' c' (bs.drop 4) #[.int .i64 2, .int .u32 (beN (bs.take 4) : Int), .int .i64 0, .slice none 0 0, .int .i64 0, .int .i64 0, .int .i64 0, .int .i64 0, .int .i64 0, .int .i64 0, .int .u32 0, .int .i64 0, .int .i64 0, .int .i64 0, .int .i64 0, .int .i64 0, .int .i64 0]) ∨ (i = 2 ∧ (5 ≤ bs.length ∧ bs.length ≤ 4095) ∧ ∃ A' c', RdSt (wp.alloc (.cells #[.bool false] 4)) W P M 33 none 0 [] #[.int .i64 2, .int .u32 (beN (bs.take 4) : Int), .int .i64 0, .slice A' (bs.drop 4).length c', .int .i64 0, .int .i64 0, .int .i64 0, .int .i64 0, .int .i64 0, .int .i64 0, .int .u32 0, .int .i64 0, .int .i64 0, .int .i64 0, .int .i64 0, .int .i64 0, .int .i64 0] ∧ BytesAt W A' (bs.drop 4) ∧ ∃ g x, A' = some ⟨g, x, none⟩ ∧ wp.heap.size + 1 ≤ g)) → Chg (fun i => i = P ∨ i = M) (wp.alloc (.cells #[.bool false] 4)) W := fun i W hq => by
    rcases hq with ⟨rfl, A', c', hq⟩ | ⟨rfl, hl, A', c', hq⟩ | ⟨rfl, hl, A', c', hq, hby, hg⟩ <;> exact hq.chg
  refine (overQ_gen wp P M fb 0 2 [48, 52]
    (fun i W => (i = 0 ∧ ∃ A' c', RdSt (wp.alloc (.cells #[.bool false] 4)) W P M 33 A' c' bs #[.int .i64 2, .int .u32 0, .int .i64 0, .slice none 0 0, .int .i64 0, .int .i64 0, .int .i64 0, .int .i64 0, .int .i64 0, .int .i64 0, .int .u32 0, .int .i64 0, .int .i64 0, .int .i64 0, .int .i64 0, .int .i64 0, .int .i64 0]) ∨ (i = 1 ∧ 4 ≤ bs.length ∧ ∃ A' c', RdSt (wp.alloc (.cells #[.bool false] 4)) W P M 33 A' c' (bs.drop 4) #[.int .i64 2, .int .u32 (beN (bs.take 4) : Int), .int .i64 0, .slice none 0 0, .int .i64 0, .int .i64 0, .int .i64 0, .int .i64 0, .int .i64 0, .int .i64 0, .int .u32 0, .int .i64 0, .int .i64 0, .int .i64 0, .int .i64 0, .int .i64 0, .int .i64 0]) ∨ (i = 2 ∧ (5 ≤ bs.length ∧ bs.length ≤ 4095) ∧ ∃ A' c', RdSt (wp.alloc (.cells #[.bool false] 4)) W P M 33 none 0 [] #[.int .i64 2, .int .u32 (beN (bs.take 4) : Int), .int .i64 0, .slice A' (bs.drop 4).length c', .int .i64 0, .int .i64 0, .int .i64 0, .int .i64 0, .int .i64 0, .int .i64 0, .int .u32 0, .int .i64 0, .int .i64 0, .int .i64 0, .int .i64 0, .int .i64 0, .int .i64 0] ∧ BytesAt W A' (bs.drop 4) ∧ ∃ g x, A' = some ⟨g, x, none⟩ ∧ wp.heap.size + 1 ≤ g))
    (fun W => ¬ (5 ≤ bs.length ∧ bs.length ≤ 4095) ∧ Chg (fun i => i = P ∨ i = M) (wp.alloc (.cells #[.bool false] 4)) W)
    ?_ ?_ ?_ (fun i W hq => chgE W (chgQ i W hq)) (fun W hR => chgE W hR.2) ?_ ?_ (by simp)).mono ?_
  · intro i h args W
    have : i = 0 ∨ i = 1 := by simp at h; omega
    rcases this with rfl | rfl
    · exact enters_of Try.func48 (by kernel_rfl) rfl args W
    · exact enters_of Try.func52 (by kernel_rfl) rfl args W
  · intro i W hq j h
    have hb : Blk W fb 102 #[.func (.func 48) #[] #[], .func (.func 52) #[] #[]] := (hF.alloc _).chg (chgQ i W hq) (fun q => q.elim hfP hfM)
    have : j = 0 ∨ j = 1 := by simp at h; omega
    rcases this with rfl | rfl
    · exact (hb.cell 0).trans rfl
    · exact (hb.cell 1).trans rfl
  · exact .inl ⟨rfl, A, c, hst⟩
  · intro i h W hq
    rcases hq with ⟨rfl, A', c', hq⟩ | ⟨rfl, hl, A', c', hq⟩ | ⟨rfl, hl, A', c', hq, hby, hg⟩
    · refine (asks1_of W P M _ (fun e w' h => rdPost_two h) (word_any _ W P M 33 A' c' bs _ 1 0 hq rfl)).mono fun e w' h => ?_
      by_cases hk : 4 ≤ bs.length
      · rw [if_pos hk] at h
        obtain ⟨h1, A2, c2, h4⟩ := h
        exact .inl ⟨h1, .inr (.inl ⟨rfl, hk, A2, c2, h4⟩)⟩
      · rw [if_neg hk] at h
        exact .inr ⟨h.1, fun q => hk (by omega), h.2⟩
    · refine (asks3_of W P M _ (fun e w' h => h.elim (fun h => .inl h.2.1) (fun h => .inr h.2.1)) (text_any _ W P M 33 A' c' (bs.drop 4) _ 3 none 0 0 hq rfl (by simp; omega))).mono fun e w' h => ?_
      rcases h with ⟨hok, h1, A2, c2, h4, hby, g, x, hg1, hg2⟩ | ⟨hok, h1, hc⟩
      · refine .inl ⟨h1, .inr (.inr ⟨rfl, by simp at hok; omega, A2, c2, h4, hby, g, x, hg1, ?_⟩)⟩
        have := hq.chg.size
        simp at this
        omega
      · exact .inr ⟨h1, fun q => hok (by simp; omega), hc⟩
    · simp at h
  · intro W hq
    rcases hq with ⟨h, _⟩ | ⟨h, _⟩ | ⟨_, hl, A', c', hq, hby, hg⟩
    · simp at h
    · simp at h
    · exact ⟨none, 0, 0, (hq.pen.cell 0).trans rfl, .inr ⟨(hq.pen.cell 1).trans rfl, fun hm => by omega⟩⟩
  · intro e w' h
    rcases h with ⟨h1, W, A2, m, c2, hq, p0, p1, hw⟩ | ⟨h1, W, hR, hw⟩
    · rcases hq with ⟨h, _⟩ | ⟨h, _⟩ | ⟨_, hl, A', c', hq, hby, hg⟩
      · simp at h
      · simp at h
      · exact .inl ⟨hl, h1, W, A', c', hq.msg, hby, hg, hq.chg, hw⟩
    · exact .inr ⟨hR.1, h1, W, hR.2, hw⟩
end Go.Proofs.Ytnbcjjgilndlaaa
