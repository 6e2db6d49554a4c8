/- The machine's Run where it does nothing. Helper. -/
import Derived.Test.YtgijkgngldfdiaaVmRun
import Derived.Test.YtgijkgngldfdiaaHeld
namespace Go.Proofs.Ytgijkgngldfdiaa
open Go.RowKit
set_option linter.unusedVariables false
set_option linter.unusedSimpArgs false
/-- Nothing is done: an error. -/
def RunNone (w : World) (e : Ending) (w' : World) : Prop :=
  e = .returned (.tuple #[.agg #[.slice none 0 0, .int .i64 0, .int .i64 0, .slice none 0 0, .slice none 0 0], .int .i64 2]) ∧ Below w.heap.size w w'
section
variable (MB : Nat) (vars : Int) (kA : Option Addr) (kn kc : Nat) (me procs seed : Int) (A : Option Addr) (n c : Nat) (sent drawn T O S p q d : Int) (w : World)
set_option maxRecDepth 100000
set_option maxHeartbeats 16000000
theorem run_no (b1 b2 b3 : Bool) (hM : MachAt w MB vars kA kn kc me procs seed) (hme : 1 ≤ me) (h1 : stOk vars n sent drawn = b1) (h2 : MayB T O S p q d procs = b2) (h3 : decide (p = me) = b3) (hno : (b1 && b2 && b3) = false) :
    Calls Try.prog 42 #[.pointer (some ⟨MB, 0, none⟩), .agg #[.slice A n c, .int .i64 sent, .int .i64 drawn], .agg #[.int .i64 T, .int .i64 O, .int .i64 S, .int .i64 p, .int .i64 q, .int .i64 d]] w
      (RunNone w) := by
  obtain ⟨w3, hw3⟩ : ∃ w3, ((w.alloc (.cells #[.slice A n c, .int .i64 sent, .int .i64 drawn] 65)).alloc (.cells #[.int .i64 T, .int .i64 O, .int .i64 S, .int .i64 p, .int .i64 q, .int .i64 d] 44)).alloc (.cells #[.slice none 0 0, .int .i64 0, .int .i64 0, .slice none 0 0, .slice none 0 0] 94) = w3 := ⟨_, rfl⟩
  have b3' : Nw w w3 := by rw [← hw3]; exact (((Nw.refl w).alloc _).alloc _).alloc _
  obtain ⟨SB, hSB⟩ : ∃ SB, w.heap.size = SB := ⟨_, rfl⟩
  obtain ⟨EB, hEB⟩ : ∃ EB, w.heap.size + 1 = EB := ⟨_, rfl⟩
  obtain ⟨RB, hRB⟩ : ∃ RB, w.heap.size + 1 + 1 = RB := ⟨_, rfl⟩
  have hbS : Blk w3 SB 65 #[.slice A n c, .int .i64 sent, .int .i64 drawn] := by rw [← hw3]; exact (((Blk.last w _ _ hSB).alloc _).alloc _)
  have hbE : Blk w3 EB 44 #[.int .i64 T, .int .i64 O, .int .i64 S, .int .i64 p, .int .i64 q, .int .i64 d] := by rw [← hw3]; exact ((Blk.last _ _ _ (by simpa using hEB)).alloc _)
  have hbR : Blk w3 RB 94 #[.slice none 0 0, .int .i64 0, .int .i64 0, .slice none 0 0, .slice none 0 0] := by rw [← hw3]; exact Blk.last _ _ _ (by simpa using hRB)
  have sS : w.heap.size ≤ SB ∧ w.heap.size ≤ EB ∧ w.heap.size ≤ RB := by omega
  have B3 := Lib.hid b3'
  have HW := Lib.hid hw3
  have KN := Lib.hid (none_any MB vars kA kn kc me procs seed w3 (hM.keep b3') (by omega))
  have SS := Lib.hid sS
  have ks1 := fun W (g : Nw w3 W) => mayState_any MB vars kA kn kc me procs seed W A n c sent drawn ((hM.keep b3').keep g) (by omega)
  rw [h1] at ks1
  have KS := Lib.hid ks1
  have ke1 := fun W => may_any T O S p q d procs W
  rw [h2] at ke1
  have KE := Lib.hid ke1
  have m2 := (hM.keep b3').m2
  have m3 := (hM.keep b3').m3
  have q0 : w3.cell? ⟨SB, 0, none⟩ = some (.slice A n c) := hbS.cell 0
  have q1 : w3.cell? ⟨SB, 1, none⟩ = some (.int .i64 sent) := hbS.cell 1
  have q2 : w3.cell? ⟨SB, 2, none⟩ = some (.int .i64 drawn) := hbS.cell 2
  have e0 : w3.cell? ⟨EB, 0, none⟩ = some (.int .i64 T) := hbE.cell 0
  have e1 : w3.cell? ⟨EB, 1, none⟩ = some (.int .i64 O) := hbE.cell 1
  have e2 : w3.cell? ⟨EB, 2, none⟩ = some (.int .i64 S) := hbE.cell 2
  have e3 : w3.cell? ⟨EB, 3, none⟩ = some (.int .i64 p) := hbE.cell 3
  have e4 : w3.cell? ⟨EB, 4, none⟩ = some (.int .i64 q) := hbE.cell 4
  have e5 : w3.cell? ⟨EB, 5, none⟩ = some (.int .i64 d) := hbE.cell 5
  have HHS := Lib.hid (⟨hSB, hEB, hRB⟩ : w.heap.size = SB ∧ w.heap.size + 1 = EB ∧ w.heap.size + 1 + 1 = RB)
  have HBR := Lib.hid hbR
  have i0 : Nw w3 w3.drew := (Nw.refl w3).drew
  have o0 : w3.cell? ⟨RB, 0, none⟩ = some (.slice none 0 0) := hbR.cell 0
  have o1 : w3.cell? ⟨RB, 1, none⟩ = some (.int .i64 0) := hbR.cell 1
  have o2 : w3.cell? ⟨RB, 2, none⟩ = some (.int .i64 0) := hbR.cell 2
  have o3 : w3.cell? ⟨RB, 3, none⟩ = some (.slice none 0 0) := hbR.cell 3
  have o4 : w3.cell? ⟨RB, 4, none⟩ = some (.slice none 0 0) := hbR.cell 4
  have z0 := hbR.frozen 0
  have z1 := hbR.frozen 1
  have z2 := hbR.frozen 2
  have z3 := hbR.frozen 3
  have z4 := hbR.frozen 4
  have HO := Lib.hid (⟨o0, o1, o2, o3, o4, z0, z1, z2, z3, z4⟩ : w3.cell? ⟨RB, 0, none⟩ = some (.slice none 0 0) ∧ w3.cell? ⟨RB, 1, none⟩ = some (.int .i64 0) ∧ w3.cell? ⟨RB, 2, none⟩ = some (.int .i64 0) ∧ w3.cell? ⟨RB, 3, none⟩ = some (.slice none 0 0) ∧ w3.cell? ⟨RB, 4, none⟩ = some (.slice none 0 0) ∧ w3.frozen? ⟨RB, 0, none⟩ = false ∧ w3.frozen? ⟨RB, 1, none⟩ = false ∧ w3.frozen? ⟨RB, 2, none⟩ = false ∧ w3.frozen? ⟨RB, 3, none⟩ = false ∧ w3.frozen? ⟨RB, 4, none⟩ = false)
  clear hSB hEB hRB hM hw3 b3' sS ks1 ke1 h1 h2 hbS hbE hbR o0 o1 o2 o3 o4 z0 z1 z2 z3 z4
  have hen : ∀ W, Nw w3 W → W.cell? ⟨RB, 0, none⟩ = some (.slice none 0 0) ∧ W.cell? ⟨RB, 1, none⟩ = some (.int .i64 0) ∧ W.cell? ⟨RB, 2, none⟩ = some (.int .i64 0) ∧ W.cell? ⟨RB, 3, none⟩ = some (.slice none 0 0) ∧ W.cell? ⟨RB, 4, none⟩ = some (.slice none 0 0) ∧ W.frozen? ⟨RB, 0, none⟩ = false ∧ W.frozen? ⟨RB, 1, none⟩ = false ∧ W.frozen? ⟨RB, 2, none⟩ = false ∧ W.frozen? ⟨RB, 3, none⟩ = false ∧ W.frozen? ⟨RB, 4, none⟩ = false := fun W hW => by
    obtain ⟨o0, o1, o2, o3, o4, z0, z1, z2, z3, z4⟩ := HO.out
    exact ⟨hW.cell o0, hW.cell o1, hW.cell o2, hW.cell o3, hW.cell o4, hW.frozen o0 z0, hW.frozen o1 z1, hW.frozen o2 z2, hW.frozen o3 z3, hW.frozen o4 z4⟩
  have HEN := Lib.hid hen
  clear hen
  cases b1 with
  | false =>
    clear h3 hno KE
    go_enter Try.func42, Try.ntmps42
    go_upto_region 1 with (fail)
    rw [HW.out, HHS.out.2.2, HHS.out.2.1, HHS.out.1]
    go_wp2_with fail
    refine KN.out.mono ?_
    rintro e w' ⟨rfl, hw⟩
    obtain rfl := hw.symm
    clear KN
    go_wp2_with fail
    refine wp_region_held_drew (S := fun W => Nw w3 W ∧ W.cell? ⟨SB, 0, none⟩ = some (.slice A n c) ∧ W.cell? ⟨SB, 1, none⟩ = some (.int .i64 sent) ∧ W.cell? ⟨SB, 2, none⟩ = some (.int .i64 drawn)) (by kernel_rfl) (⟨i0, q0, q1, q2⟩) (fun hHeld => ?_)
    change wpAnyH _ _ _ _ _ 23 #[false, false, false, false, false, false, false, false, false, false, false, false, false, false, false, false, false, false, false, false, false, false, false] _ _
    refine wpAnyH_run (i := 0) (d := 18) (v := ?_) rfl rfl (by kernel_rfl) (by kernel_rfl) (by kernel_rfl) (fun _ _ _ h => h) (by rfl) ?_ (by assumption) ?_
    rotate_left
    · intro W hSw
      try dsimp only at hSw
      go_simp
      try with_reducible rfl
    try simp only [Act.put, List.setIfInBounds_toArray, List.set_cons_zero, List.set_cons_succ]
    refine wpAnyH_run (i := 1) (d := 19) (v := ?_) rfl rfl (by kernel_rfl) (by kernel_rfl) (by kernel_rfl) (fun _ _ _ h => h) (by rfl) ?_ (by assumption) ?_
    rotate_left
    · intro W hSw
      try dsimp only at hSw
      go_simp
      try with_reducible rfl
    try simp only [Act.put, List.setIfInBounds_toArray, List.set_cons_zero, List.set_cons_succ]
    refine wpAnyH_only (i := 2) rfl (by kernel_rfl) (by rfl) (fun K hK => ?_)
    go_simp
    refine (KS.out _ hHeld.1).mono ?_
    rintro e wx ⟨rfl, bx⟩
    have ix := hHeld.1.step bx
    go_simp
    have hHeld : (fun W => Nw w3 W ∧ W.cell? ⟨SB, 0, none⟩ = some (.slice A n c) ∧ W.cell? ⟨SB, 1, none⟩ = some (.int .i64 sent) ∧ W.cell? ⟨SB, 2, none⟩ = some (.int .i64 drawn)) wx := ⟨ix, ix.cell q0, ix.cell q1, ix.cell q2⟩
    refine hK _ _ hHeld ?_
    clear hK K
    try simp only [Act.put, List.setIfInBounds_toArray, List.set_cons_zero, List.set_cons_succ]
    refine wpAnyH_run (i := 3) (d := 21) (v := ?_) rfl rfl (by kernel_rfl) (by kernel_rfl) (by kernel_rfl) (fun _ _ _ h => h) (by rfl) ?_ (by assumption) ?_
    rotate_left
    · intro W hSw
      try dsimp only at hSw
      go_simp
      try with_reducible rfl
    try simp only [Act.put, List.setIfInBounds_toArray, List.set_cons_zero, List.set_cons_succ]
    refine wpAnyH_run (i := 4) (d := 22) (v := ?_) rfl rfl (by kernel_rfl) (by kernel_rfl) (by kernel_rfl) (fun _ _ _ h => h) (by rfl) ?_ (by assumption) ?_
    rotate_left
    · intro W hSw
      try dsimp only at hSw
      go_simp
      try with_reducible rfl
    try simp only [Act.put, List.setIfInBounds_toArray, List.set_cons_zero, List.set_cons_succ]
    refine wpAnyH_skip (i := 5) (d := 23) rfl rfl (by kernel_rfl) (by kernel_rfl) (by kernel_rfl) (fun _ _ _ h => h) (by rfl) (by assumption) ?_
    try simp only [Act.put, List.setIfInBounds_toArray, List.set_cons_zero, List.set_cons_succ]
    refine wpAnyH_skip (i := 6) (d := 24) rfl rfl (by kernel_rfl) (by kernel_rfl) (by kernel_rfl) (fun _ _ _ h => h) (by rfl) (by assumption) ?_
    try simp only [Act.put, List.setIfInBounds_toArray, List.set_cons_zero, List.set_cons_succ]
    refine wpAnyH_skip (i := 7) (d := 25) rfl rfl (by kernel_rfl) (by kernel_rfl) (by kernel_rfl) (fun _ _ _ h => h) (by rfl) (by assumption) ?_
    try simp only [Act.put, List.setIfInBounds_toArray, List.set_cons_zero, List.set_cons_succ]
    refine wpAnyH_skip (i := 8) (d := 26) rfl rfl (by kernel_rfl) (by kernel_rfl) (by kernel_rfl) (fun _ _ _ h => h) (by rfl) (by assumption) ?_
    try simp only [Act.put, List.setIfInBounds_toArray, List.set_cons_zero, List.set_cons_succ]
    refine wpAnyH_skip (i := 9) (d := 27) rfl rfl (by kernel_rfl) (by kernel_rfl) (by kernel_rfl) (fun _ _ _ h => h) (by rfl) (by assumption) ?_
    try simp only [Act.put, List.setIfInBounds_toArray, List.set_cons_zero, List.set_cons_succ]
    refine wpAnyH_skip (i := 10) (d := 28) rfl rfl (by kernel_rfl) (by kernel_rfl) (by kernel_rfl) (fun _ _ _ h => h) (by rfl) (by assumption) ?_
    try simp only [Act.put, List.setIfInBounds_toArray, List.set_cons_zero, List.set_cons_succ]
    refine wpAnyH_skip (i := 11) (d := 29) rfl rfl (by kernel_rfl) (by kernel_rfl) (by kernel_rfl) (fun _ _ _ h => h) (by rfl) (by assumption) ?_
    try simp only [Act.put, List.setIfInBounds_toArray, List.set_cons_zero, List.set_cons_succ]
    refine wpAnyH_run (i := 12) (d := 30) (v := ?_) rfl rfl (by kernel_rfl) (by kernel_rfl) (by kernel_rfl) (fun _ _ _ h => h) (by rfl) ?_ (by assumption) ?_
    rotate_left
    · intro W hSw
      try dsimp only at hSw
      go_simp
      try with_reducible rfl
    try simp only [Act.put, List.setIfInBounds_toArray, List.set_cons_zero, List.set_cons_succ]
    refine wpAnyH_run (i := 13) (d := 31) (v := ?_) rfl rfl (by kernel_rfl) (by kernel_rfl) (by kernel_rfl) (fun _ _ _ h => h) (by rfl) ?_ (by assumption) ?_
    rotate_left
    · intro W hSw
      try dsimp only at hSw
      go_simp
      try with_reducible rfl
    try simp only [Act.put, List.setIfInBounds_toArray, List.set_cons_zero, List.set_cons_succ]
    refine wpAnyH_skip (i := 14) (d := 32) rfl rfl (by kernel_rfl) (by kernel_rfl) (by kernel_rfl) (fun _ _ _ h => h) (by rfl) (by assumption) ?_
    try simp only [Act.put, List.setIfInBounds_toArray, List.set_cons_zero, List.set_cons_succ]
    refine wpAnyH_skip (i := 15) (d := 33) rfl rfl (by kernel_rfl) (by kernel_rfl) (by kernel_rfl) (fun _ _ _ h => h) (by rfl) (by assumption) ?_
    try simp only [Act.put, List.setIfInBounds_toArray, List.set_cons_zero, List.set_cons_succ]
    refine wpAnyH_skip (i := 16) (d := 34) rfl rfl (by kernel_rfl) (by kernel_rfl) (by kernel_rfl) (fun _ _ _ h => h) (by rfl) (by assumption) ?_
    try simp only [Act.put, List.setIfInBounds_toArray, List.set_cons_zero, List.set_cons_succ]
    refine wpAnyH_skip (i := 17) (d := 35) rfl rfl (by kernel_rfl) (by kernel_rfl) (by kernel_rfl) (fun _ _ _ h => h) (by rfl) (by assumption) ?_
    try simp only [Act.put, List.setIfInBounds_toArray, List.set_cons_zero, List.set_cons_succ]
    refine wpAnyH_skip (i := 18) (d := 36) rfl rfl (by kernel_rfl) (by kernel_rfl) (by kernel_rfl) (fun _ _ _ h => h) (by rfl) (by assumption) ?_
    try simp only [Act.put, List.setIfInBounds_toArray, List.set_cons_zero, List.set_cons_succ]
    refine wpAnyH_skip (i := 19) (d := 37) rfl rfl (by kernel_rfl) (by kernel_rfl) (by kernel_rfl) (fun _ _ _ h => h) (by rfl) (by assumption) ?_
    try simp only [Act.put, List.setIfInBounds_toArray, List.set_cons_zero, List.set_cons_succ]
    refine wpAnyH_skip (i := 20) (d := 38) rfl rfl (by kernel_rfl) (by kernel_rfl) (by kernel_rfl) (fun _ _ _ h => h) (by rfl) (by assumption) ?_
    try simp only [Act.put, List.setIfInBounds_toArray, List.set_cons_zero, List.set_cons_succ]
    refine wpAnyH_run (i := 21) (d := 39) (v := ?_) rfl rfl (by kernel_rfl) (by kernel_rfl) (by kernel_rfl) (fun _ _ _ h => h) (by rfl) ?_ (by assumption) ?_
    rotate_left
    · intro W hSw
      try dsimp only at hSw
      go_simp
      try with_reducible rfl
    try simp only [Act.put, List.setIfInBounds_toArray, List.set_cons_zero, List.set_cons_succ]
    refine wpAnyH_run (i := 22) (d := 17) (v := ?_) rfl rfl (by kernel_rfl) (by kernel_rfl) (by kernel_rfl) (fun _ _ _ h => h) (by rfl) ?_ (by assumption) ?_
    rotate_left
    · intro W hSw
      try dsimp only at hSw
      go_simp
      try with_reducible rfl
    try simp only [Act.put, List.setIfInBounds_toArray, List.set_cons_zero, List.set_cons_succ]
    refine wpAnyH_done (by kernel_rfl) ?_ _
    all_goals
      obtain ⟨o0, o1, o2, o3, o4, z0, z1, z2, z3, z4⟩ := HEN.out _ ix
      have IX := Lib.hid ix
      clear ix bx i0 q0 q1 q2 e0 e1 e2 e3 e4 e5 m2 m3
      go_wp2_with fail
      refine bodyPost_ret (v := .tuple #[.agg #[.slice none 0 0, .int .i64 0, .int .i64 0, .slice none 0 0, .slice none 0 0], .int .i64 2]) (by simp [results, Try.results42, go_sem, o0, o1, o2, o3, o4]) rfl ⟨rfl, ?_⟩
      exact put5_below (B3.out.step IX.out) SS.out.2.2 _ _ _ _ _
  | true =>
    cases b2 with
    | false =>
      clear h3 hno
      go_enter Try.func42, Try.ntmps42
      go_upto_region 1 with (fail)
      rw [HW.out, HHS.out.2.2, HHS.out.2.1, HHS.out.1]
      go_wp2_with fail
      refine KN.out.mono ?_
      rintro e w' ⟨rfl, hw⟩
      obtain rfl := hw.symm
      clear KN
      go_wp2_with fail
      refine wp_region_held_drew (S := fun W => Nw w3 W ∧ W.cell? ⟨SB, 0, none⟩ = some (.slice A n c) ∧ W.cell? ⟨SB, 1, none⟩ = some (.int .i64 sent) ∧ W.cell? ⟨SB, 2, none⟩ = some (.int .i64 drawn) ∧ W.cell? ⟨EB, 0, none⟩ = some (.int .i64 T) ∧ W.cell? ⟨EB, 1, none⟩ = some (.int .i64 O) ∧ W.cell? ⟨EB, 2, none⟩ = some (.int .i64 S) ∧ W.cell? ⟨EB, 3, none⟩ = some (.int .i64 p) ∧ W.cell? ⟨EB, 4, none⟩ = some (.int .i64 q) ∧ W.cell? ⟨EB, 5, none⟩ = some (.int .i64 d) ∧ W.cell? ⟨MB, 2, none⟩ = some (.int .i64 me) ∧ W.cell? ⟨MB, 3, none⟩ = some (.int .i64 procs)) (by kernel_rfl) (⟨i0, q0, q1, q2, e0, e1, e2, e3, e4, e5, m2, m3⟩) (fun hHeld => ?_)
      change wpAnyH _ _ _ _ _ 23 #[false, false, false, false, false, false, false, false, false, false, false, false, false, false, false, false, false, false, false, false, false, false, false] _ _
      refine wpAnyH_run (i := 0) (d := 18) (v := ?_) rfl rfl (by kernel_rfl) (by kernel_rfl) (by kernel_rfl) (fun _ _ _ h => h) (by rfl) ?_ (by assumption) ?_
      rotate_left
      · intro W hSw
        try dsimp only at hSw
        go_simp
        try with_reducible rfl
      try simp only [Act.put, List.setIfInBounds_toArray, List.set_cons_zero, List.set_cons_succ]
      refine wpAnyH_run (i := 1) (d := 19) (v := ?_) rfl rfl (by kernel_rfl) (by kernel_rfl) (by kernel_rfl) (fun _ _ _ h => h) (by rfl) ?_ (by assumption) ?_
      rotate_left
      · intro W hSw
        try dsimp only at hSw
        go_simp
        try with_reducible rfl
      try simp only [Act.put, List.setIfInBounds_toArray, List.set_cons_zero, List.set_cons_succ]
      refine wpAnyH_only (i := 2) rfl (by kernel_rfl) (by rfl) (fun K hK => ?_)
      go_simp
      refine (KS.out _ hHeld.1).mono ?_
      rintro e wx ⟨rfl, bx⟩
      have ix := hHeld.1.step bx
      go_simp
      have hHeld : (fun W => Nw w3 W ∧ W.cell? ⟨SB, 0, none⟩ = some (.slice A n c) ∧ W.cell? ⟨SB, 1, none⟩ = some (.int .i64 sent) ∧ W.cell? ⟨SB, 2, none⟩ = some (.int .i64 drawn) ∧ W.cell? ⟨EB, 0, none⟩ = some (.int .i64 T) ∧ W.cell? ⟨EB, 1, none⟩ = some (.int .i64 O) ∧ W.cell? ⟨EB, 2, none⟩ = some (.int .i64 S) ∧ W.cell? ⟨EB, 3, none⟩ = some (.int .i64 p) ∧ W.cell? ⟨EB, 4, none⟩ = some (.int .i64 q) ∧ W.cell? ⟨EB, 5, none⟩ = some (.int .i64 d) ∧ W.cell? ⟨MB, 2, none⟩ = some (.int .i64 me) ∧ W.cell? ⟨MB, 3, none⟩ = some (.int .i64 procs)) wx := ⟨ix, ix.cell q0, ix.cell q1, ix.cell q2, ix.cell e0, ix.cell e1, ix.cell e2, ix.cell e3, ix.cell e4, ix.cell e5, ix.cell m2, ix.cell m3⟩
      refine hK _ _ hHeld ?_
      clear hK K
      try simp only [Act.put, List.setIfInBounds_toArray, List.set_cons_zero, List.set_cons_succ]
      refine wpAnyH_run (i := 3) (d := 21) (v := ?_) rfl rfl (by kernel_rfl) (by kernel_rfl) (by kernel_rfl) (fun _ _ _ h => h) (by rfl) ?_ (by assumption) ?_
      rotate_left
      · intro W hSw
        try dsimp only at hSw
        go_simp
        try with_reducible rfl
      try simp only [Act.put, List.setIfInBounds_toArray, List.set_cons_zero, List.set_cons_succ]
      refine wpAnyH_run (i := 4) (d := 22) (v := ?_) rfl rfl (by kernel_rfl) (by kernel_rfl) (by kernel_rfl) (fun _ _ _ h => h) (by rfl) ?_ (by assumption) ?_
      rotate_left
      · intro W hSw
        try dsimp only at hSw
        go_simp
        try with_reducible rfl
      try simp only [Act.put, List.setIfInBounds_toArray, List.set_cons_zero, List.set_cons_succ]
      refine wpAnyH_run (i := 5) (d := 23) (v := ?_) rfl rfl (by kernel_rfl) (by kernel_rfl) (by kernel_rfl) (fun _ _ _ h => h) (by rfl) ?_ (by assumption) ?_
      rotate_left
      · intro W hSw
        try dsimp only at hSw
        go_simp
        try with_reducible rfl
      try simp only [Act.put, List.setIfInBounds_toArray, List.set_cons_zero, List.set_cons_succ]
      refine wpAnyH_run (i := 6) (d := 24) (v := ?_) rfl rfl (by kernel_rfl) (by kernel_rfl) (by kernel_rfl) (fun _ _ _ h => h) (by rfl) ?_ (by assumption) ?_
      rotate_left
      · intro W hSw
        try dsimp only at hSw
        go_simp
        try with_reducible rfl
      try simp only [Act.put, List.setIfInBounds_toArray, List.set_cons_zero, List.set_cons_succ]
      refine wpAnyH_run (i := 7) (d := 25) (v := ?_) rfl rfl (by kernel_rfl) (by kernel_rfl) (by kernel_rfl) (fun _ _ _ h => h) (by rfl) ?_ (by assumption) ?_
      rotate_left
      · intro W hSw
        try dsimp only at hSw
        go_simp
        try with_reducible rfl
      try simp only [Act.put, List.setIfInBounds_toArray, List.set_cons_zero, List.set_cons_succ]
      refine wpAnyH_run (i := 8) (d := 26) (v := ?_) rfl rfl (by kernel_rfl) (by kernel_rfl) (by kernel_rfl) (fun _ _ _ h => h) (by rfl) ?_ (by assumption) ?_
      rotate_left
      · intro W hSw
        try dsimp only at hSw
        go_simp
        try with_reducible rfl
      try simp only [Act.put, List.setIfInBounds_toArray, List.set_cons_zero, List.set_cons_succ]
      refine wpAnyH_run (i := 9) (d := 27) (v := ?_) rfl rfl (by kernel_rfl) (by kernel_rfl) (by kernel_rfl) (fun _ _ _ h => h) (by rfl) ?_ (by assumption) ?_
      rotate_left
      · intro W hSw
        try dsimp only at hSw
        go_simp
        try with_reducible rfl
      try simp only [Act.put, List.setIfInBounds_toArray, List.set_cons_zero, List.set_cons_succ]
      refine wpAnyH_only (i := 10) rfl (by kernel_rfl) (by rfl) (fun K hK => ?_)
      go_simp
      refine (KE.out _).mono ?_
      rintro e wy ⟨rfl, by_⟩
      have iy := hHeld.1.step by_
      go_simp
      have hHeld : (fun W => Nw w3 W ∧ W.cell? ⟨SB, 0, none⟩ = some (.slice A n c) ∧ W.cell? ⟨SB, 1, none⟩ = some (.int .i64 sent) ∧ W.cell? ⟨SB, 2, none⟩ = some (.int .i64 drawn) ∧ W.cell? ⟨EB, 0, none⟩ = some (.int .i64 T) ∧ W.cell? ⟨EB, 1, none⟩ = some (.int .i64 O) ∧ W.cell? ⟨EB, 2, none⟩ = some (.int .i64 S) ∧ W.cell? ⟨EB, 3, none⟩ = some (.int .i64 p) ∧ W.cell? ⟨EB, 4, none⟩ = some (.int .i64 q) ∧ W.cell? ⟨EB, 5, none⟩ = some (.int .i64 d) ∧ W.cell? ⟨MB, 2, none⟩ = some (.int .i64 me) ∧ W.cell? ⟨MB, 3, none⟩ = some (.int .i64 procs)) wy := ⟨iy, iy.cell q0, iy.cell q1, iy.cell q2, iy.cell e0, iy.cell e1, iy.cell e2, iy.cell e3, iy.cell e4, iy.cell e5, iy.cell m2, iy.cell m3⟩
      refine hK _ _ hHeld ?_
      clear hK K
      try simp only [Act.put, List.setIfInBounds_toArray, List.set_cons_zero, List.set_cons_succ]
      refine wpAnyH_run (i := 11) (d := 29) (v := ?_) rfl rfl (by kernel_rfl) (by kernel_rfl) (by kernel_rfl) (fun _ _ _ h => h) (by rfl) ?_ (by assumption) ?_
      rotate_left
      · intro W hSw
        try dsimp only at hSw
        go_simp
        try with_reducible rfl
      try simp only [Act.put, List.setIfInBounds_toArray, List.set_cons_zero, List.set_cons_succ]
      refine wpAnyH_run (i := 12) (d := 30) (v := ?_) rfl rfl (by kernel_rfl) (by kernel_rfl) (by kernel_rfl) (fun _ _ _ h => h) (by rfl) ?_ (by assumption) ?_
      rotate_left
      · intro W hSw
        try dsimp only at hSw
        go_simp
        try with_reducible rfl
      try simp only [Act.put, List.setIfInBounds_toArray, List.set_cons_zero, List.set_cons_succ]
      refine wpAnyH_run (i := 13) (d := 31) (v := ?_) rfl rfl (by kernel_rfl) (by kernel_rfl) (by kernel_rfl) (fun _ _ _ h => h) (by rfl) ?_ (by assumption) ?_
      rotate_left
      · intro W hSw
        try dsimp only at hSw
        go_simp
        try with_reducible rfl
      try simp only [Act.put, List.setIfInBounds_toArray, List.set_cons_zero, List.set_cons_succ]
      refine wpAnyH_skip (i := 14) (d := 32) rfl rfl (by kernel_rfl) (by kernel_rfl) (by kernel_rfl) (fun _ _ _ h => h) (by rfl) (by assumption) ?_
      try simp only [Act.put, List.setIfInBounds_toArray, List.set_cons_zero, List.set_cons_succ]
      refine wpAnyH_skip (i := 15) (d := 33) rfl rfl (by kernel_rfl) (by kernel_rfl) (by kernel_rfl) (fun _ _ _ h => h) (by rfl) (by assumption) ?_
      try simp only [Act.put, List.setIfInBounds_toArray, List.set_cons_zero, List.set_cons_succ]
      refine wpAnyH_skip (i := 16) (d := 34) rfl rfl (by kernel_rfl) (by kernel_rfl) (by kernel_rfl) (fun _ _ _ h => h) (by rfl) (by assumption) ?_
      try simp only [Act.put, List.setIfInBounds_toArray, List.set_cons_zero, List.set_cons_succ]
      refine wpAnyH_skip (i := 17) (d := 35) rfl rfl (by kernel_rfl) (by kernel_rfl) (by kernel_rfl) (fun _ _ _ h => h) (by rfl) (by assumption) ?_
      try simp only [Act.put, List.setIfInBounds_toArray, List.set_cons_zero, List.set_cons_succ]
      refine wpAnyH_skip (i := 18) (d := 36) rfl rfl (by kernel_rfl) (by kernel_rfl) (by kernel_rfl) (fun _ _ _ h => h) (by rfl) (by assumption) ?_
      try simp only [Act.put, List.setIfInBounds_toArray, List.set_cons_zero, List.set_cons_succ]
      refine wpAnyH_skip (i := 19) (d := 37) rfl rfl (by kernel_rfl) (by kernel_rfl) (by kernel_rfl) (fun _ _ _ h => h) (by rfl) (by assumption) ?_
      try simp only [Act.put, List.setIfInBounds_toArray, List.set_cons_zero, List.set_cons_succ]
      refine wpAnyH_skip (i := 20) (d := 38) rfl rfl (by kernel_rfl) (by kernel_rfl) (by kernel_rfl) (fun _ _ _ h => h) (by rfl) (by assumption) ?_
      try simp only [Act.put, List.setIfInBounds_toArray, List.set_cons_zero, List.set_cons_succ]
      refine wpAnyH_run (i := 21) (d := 39) (v := ?_) rfl rfl (by kernel_rfl) (by kernel_rfl) (by kernel_rfl) (fun _ _ _ h => h) (by rfl) ?_ (by assumption) ?_
      rotate_left
      · intro W hSw
        try dsimp only at hSw
        go_simp
        try with_reducible rfl
      try simp only [Act.put, List.setIfInBounds_toArray, List.set_cons_zero, List.set_cons_succ]
      refine wpAnyH_run (i := 22) (d := 17) (v := ?_) rfl rfl (by kernel_rfl) (by kernel_rfl) (by kernel_rfl) (fun _ _ _ h => h) (by rfl) ?_ (by assumption) ?_
      rotate_left
      · intro W hSw
        try dsimp only at hSw
        go_simp
        try with_reducible rfl
      try simp only [Act.put, List.setIfInBounds_toArray, List.set_cons_zero, List.set_cons_succ]
      refine wpAnyH_done (by kernel_rfl) ?_ _
      all_goals
        obtain ⟨o0, o1, o2, o3, o4, z0, z1, z2, z3, z4⟩ := HEN.out _ iy
        have IX := Lib.hid iy
        clear ix bx i0 iy by_ q0 q1 q2 e0 e1 e2 e3 e4 e5 m2 m3
        go_wp2_with fail
        refine bodyPost_ret (v := .tuple #[.agg #[.slice none 0 0, .int .i64 0, .int .i64 0, .slice none 0 0, .slice none 0 0], .int .i64 2]) (by simp [results, Try.results42, go_sem, o0, o1, o2, o3, o4]) rfl ⟨rfl, ?_⟩
        exact put5_below (B3.out.step IX.out) SS.out.2.2 _ _ _ _ _
    | true =>
      have hb3 : b3 = false := by simpa using hno
      rw [hb3] at h3
      have hne : p ≠ me := by simpa using h3
      have g1 : (p != me) = true := bne_iff_ne.2 hne
      clear h3 hno hne hb3
      go_enter Try.func42, Try.ntmps42
      go_upto_region 1 with (fail)
      rw [HW.out, HHS.out.2.2, HHS.out.2.1, HHS.out.1]
      go_wp2_with fail
      refine KN.out.mono ?_
      rintro e w' ⟨rfl, hw⟩
      obtain rfl := hw.symm
      clear KN
      go_wp2_with fail
      (first | go_region_held3 (fun W => Nw w3 W ∧ W.cell? ⟨SB, 0, none⟩ = some (.slice A n c) ∧ W.cell? ⟨SB, 1, none⟩ = some (.int .i64 sent) ∧ W.cell? ⟨SB, 2, none⟩ = some (.int .i64 drawn) ∧ W.cell? ⟨EB, 0, none⟩ = some (.int .i64 T) ∧ W.cell? ⟨EB, 1, none⟩ = some (.int .i64 O) ∧ W.cell? ⟨EB, 2, none⟩ = some (.int .i64 S) ∧ W.cell? ⟨EB, 3, none⟩ = some (.int .i64 p) ∧ W.cell? ⟨EB, 4, none⟩ = some (.int .i64 q) ∧ W.cell? ⟨EB, 5, none⟩ = some (.int .i64 d) ∧ W.cell? ⟨MB, 2, none⟩ = some (.int .i64 me) ∧ W.cell? ⟨MB, 3, none⟩ = some (.int .i64 procs)) (first | exact ⟨i0, q0, q1, q2, e0, e1, e2, e3, e4, e5, m2, m3⟩ | exact ⟨by assumption, Nw.cell (by assumption) q0, Nw.cell (by assumption) q1, Nw.cell (by assumption) q2, Nw.cell (by assumption) e0, Nw.cell (by assumption) e1, Nw.cell (by assumption) e2, Nw.cell (by assumption) e3, Nw.cell (by assumption) e4, Nw.cell (by assumption) e5, Nw.cell (by assumption) m2, Nw.cell (by assumption) m3⟩) (first
        | (go_at_call 66; (with_reducible refine (KS.out _ (by assumption)).mono ?_); rintro e wx ⟨rfl, bx⟩; have ix := Nw.step (by assumption) bx)
        | (go_at_call 40; (with_reducible refine (KE.out _).mono ?_); rintro e wy ⟨rfl, by_⟩; have iy := Nw.step (by assumption) by_)) | fail)
      all_goals
        obtain ⟨o0, o1, o2, o3, o4, z0, z1, z2, z3, z4⟩ := HEN.out _ iy
        have IX := Lib.hid iy
        clear ix bx i0 iy by_ q0 q1 q2 e0 e1 e2 e3 e4 e5 m2 m3
        go_wp2_with fail
        refine bodyPost_ret (v := .tuple #[.agg #[.slice none 0 0, .int .i64 0, .int .i64 0, .slice none 0 0, .slice none 0 0], .int .i64 2]) (by simp [results, Try.results42, go_sem, o0, o1, o2, o3, o4]) rfl ⟨rfl, ?_⟩
        exact put5_below (B3.out.step IX.out) SS.out.2.2 _ _ _ _ _
end
end Go.Proofs.Ytgijkgngldfdiaa
