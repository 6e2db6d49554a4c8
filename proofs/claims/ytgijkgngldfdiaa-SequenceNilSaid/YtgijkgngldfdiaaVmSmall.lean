/- The machine's small functions: none, Self, May; slices.Clone of numbers; the deeds. Helper. -/
import Derived.Test.YtgijkgngldfdiaaVmStep
import Derived.Test.YtgijkgngldfdiaaVmMay
import Derived.WalkSpells
namespace Go.Proofs.Ytgijkgngldfdiaa
open Go.RowKit
set_option linter.unusedVariables false
set_option linter.unusedSimpArgs false
/-- A machine in memory: its program's variables and kinds, its process, how many, its seed. -/
structure MachAt (w : World) (MB : Nat) (vars : Int) (kA : Option Addr) (kn kc : Nat) (me procs seed : Int) : Prop where
  m0 : w.cell? ⟨MB, 0, none⟩ = some (.int .i64 vars)
  m1 : w.cell? ⟨MB, 1, none⟩ = some (.slice kA kn kc)
  m2 : w.cell? ⟨MB, 2, none⟩ = some (.int .i64 me)
  m3 : w.cell? ⟨MB, 3, none⟩ = some (.int .i64 procs)
  m4 : w.cell? ⟨MB, 4, none⟩ = some (.int .i64 seed)
theorem MachAt.keep {w w' : World} {MB : Nat} {vars : Int} {kA : Option Addr} {kn kc : Nat} {me procs seed : Int} (h : MachAt w MB vars kA kn kc me procs seed) (hN : Nw w w') : MachAt w' MB vars kA kn kc me procs seed :=
  ⟨hN.cell h.m0, hN.cell h.m1, hN.cell h.m2, hN.cell h.m3, hN.cell h.m4⟩
section
variable (MB : Nat) (vars : Int) (kA : Option Addr) (kn kc : Nat) (me procs seed : Int) (w : World)
set_option maxRecDepth 100000
theorem none_any (h : MachAt w MB vars kA kn kc me procs seed) (hs : me ≠ 0) :
    Calls Try.prog 65 #[.pointer (some ⟨MB, 0, none⟩)] w fun e w' => e = .returned (.bool false) ∧ w' = w := by
  have c2 := h.m2
  have g : (me == 0) = false := beq_eq_false_iff_ne.2 hs
  clear h hs
  go_enter Try.func65, Try.ntmps65
  go_wp2
  go_ret
  exact ⟨rfl, rfl⟩
def stOk (vars : Int) (n : Nat) (sent drawn : Int) : Bool := decide ((n : Int) = vars) && decide (0 ≤ sent) && decide (0 ≤ drawn)
set_option maxHeartbeats 800000 in
theorem mayState_any (A : Option Addr) (n c : Nat) (sent drawn : Int) (h : MachAt w MB vars kA kn kc me procs seed) (hs : me ≠ 0) :
    Calls Try.prog 66 #[.pointer (some ⟨MB, 0, none⟩), .agg #[.slice A n c, .int .i64 sent, .int .i64 drawn]] w fun e w' => e = .returned (.bool (stOk vars n sent drawn)) ∧ Below w.heap.size w w' := by
  obtain ⟨w1, hw1⟩ : ∃ w1, w.alloc (.cells #[.slice A n c, .int .i64 sent, .int .i64 drawn] 65) = w1 := ⟨_, rfl⟩
  have b1 : Nw w w1 := by rw [← hw1]; exact (Nw.refl w).alloc _
  have hb : Blk w1 w.heap.size 65 #[.slice A n c, .int .i64 sent, .int .i64 drawn] := by rw [← hw1]; exact Blk.last w _ _ rfl
  have s0 : w1.cell? ⟨w.heap.size, 0, none⟩ = some (.slice A n c) := hb.cell 0
  have s1 : w1.cell? ⟨w.heap.size, 1, none⟩ = some (.int .i64 sent) := hb.cell 1
  have s2 : w1.cell? ⟨w.heap.size, 2, none⟩ = some (.int .i64 drawn) := hb.cell 2
  have m0 := (h.keep b1).m0
  have KN := Lib.hid (fun q => none_any MB vars kA kn kc me procs seed (w1.drewN q) ((h.keep b1).keep ⟨rfl, rfl, rfl, Nat.le_refl _, fun _ _ => rfl⟩) hs)
  have HW := Lib.hid hw1
  have B1 := Lib.hid b1
  clear h hs hb b1 hw1
  unfold stOk
  by_cases e1 : (n : Int) = vars
  · have g1 : ((n : Int) == vars) = true := beq_iff_eq.2 e1
    have d1 : decide ((n : Int) = vars) = true := decide_eq_true e1
    rw [d1]
    clear e1
    by_cases e2 : 0 ≤ sent
    · have d2 : decide (0 ≤ sent) = true := decide_eq_true e2
      rw [d2]
      by_cases e3 : 0 ≤ drawn
      · have d3 : decide (0 ≤ drawn) = true := decide_eq_true e3
        rw [d3]
        go_enter Try.func66, Try.ntmps66
        go_upto_region 1 with (fail)
        rw [HW.out]
        go_quiet ((go_at_call 65; exact Calls.quiet_of_same (KN.out _)))
        go_wp2
        go_ret
        exact ⟨rfl, Below.many B1.out _⟩
      · have d3 : decide (0 ≤ drawn) = false := decide_eq_false e3
        rw [d3]
        go_enter Try.func66, Try.ntmps66
        go_upto_region 1 with (fail)
        rw [HW.out]
        go_quiet ((go_at_call 65; exact Calls.quiet_of_same (KN.out _)))
        go_wp2
        go_ret
        exact ⟨rfl, Below.many B1.out _⟩
    · have d2 : decide (0 ≤ sent) = false := decide_eq_false e2
      rw [d2]
      go_enter Try.func66, Try.ntmps66
      go_upto_region 1 with (fail)
      rw [HW.out]
      go_quiet ((go_at_call 65; exact Calls.quiet_of_same (KN.out _)))
      go_wp2
      go_ret
      exact ⟨rfl, Below.many B1.out _⟩
  · have g1 : ((n : Int) == vars) = false := beq_eq_false_iff_ne.2 e1
    have d1 : decide ((n : Int) = vars) = false := decide_eq_false e1
    rw [d1]
    clear e1
    go_enter Try.func66, Try.ntmps66
    go_upto_region 1 with (fail)
    rw [HW.out]
    go_quiet ((go_at_call 65; exact Calls.quiet_of_same (KN.out _)))
    go_wp2
    go_ret
    exact ⟨rfl, Below.many B1.out _⟩
/-- 'slices.Clone' of numbers: nil stays nil, else they lie anew. -/
def CloneOut (w : World) (l : List Int) (e : Ending) (w' : World) : Prop :=
  ∃ A c blk, e = .returned (.slice A l.length c) ∧ Own w' 2 1 (.slice A l.length c) l.length (ints l) blk ∧ Below w.heap.size w w' ∧ ∀ g, blk = some g → w.heap.size ≤ g
set_option maxHeartbeats 800000 in
theorem clone64_any (A : Option Addr) (l : List Int) (c : Nat) (ha : Rd w A (ints l)) (hl : l.length ≤ 4294967295) :
    Calls Try.prog 56 #[.slice A l.length c] w (CloneOut w l) := by
  obtain ⟨i0, hi0, hz0, hz1, hz2⟩ := info_parts info64
  have HL1 := Lib.hid hi0
  have HL2 := Lib.hid hz0
  have HL3 := Lib.hid hz1
  have HL4 := Lib.hid hz2
  clear hi0 hz0 hz1 hz2
  cases A with
  | none =>
    have hn : l = [] := by
      rcases ha with h | ⟨b, o, h, _⟩
      · simpa [ints] using h
      · cases h
    subst hn
    clear ha hl
    have hn := fun w => Lib.run_eql_slice_nil (P := Try.prog) w 40 2 none 0 c 0 0 Try.underlying40
    go_enter Try.func56, Try.ntmps56
    go_wp2
    go_ret
    exact ⟨none, _, none, rfl, ⟨rfl, none, _, rfl, Nat.zero_le _, by simp [maxLen], .inl ⟨rfl, rfl⟩⟩, Below.refl _ _, fun g hg => by cases hg⟩
  | some ad =>
    obtain ⟨b, off, spot⟩ := ad
    have hn := fun w => Lib.run_eql_slice_nil (P := Try.prog) w 40 2 (some ⟨b, off, spot⟩) l.length c 0 0 Try.underlying40
    have HA := Lib.hid ha
    clear ha
    go_enter Try.func56, Try.ntmps56
    go_wp2_with (at_builtin; refine wpList_append_at _ rfl _ _ _ rfl 2 i0 _ 1 8 Try.underlying40 HL1.out HL2.out HL3.out HL4.out rfl (by omega) _ 0 [] none rfl ⟨by simp, _, 0, rfl, Nat.le_refl _, Nat.zero_le _, .inl ⟨rfl, rfl⟩⟩ _ l.length c (ints l) rfl (by simp [ints]) (Rd.below HA.out ((Below.refl w.heap.size w).alloc (Nat.le_refl _) _) (Nat.le_refl _)) (ints_one l) (by simp only [maxLen]; omega) (by omega) ?_; intro A' c' w1 blk hown hchg hat; simp only [Nat.zero_add, List.nil_append] at hown)
    go_ret
    refine ⟨A', c', blk, rfl, hown, ((Below.refl w.heap.size w).alloc (Nat.le_refl _) _).trans (hchg.below (fun i _ h => by cases h) (by simp)), fun g hg => ?_⟩
    rcases hat with h | h
    · rw [h] at hg; cases hg
    · rw [h] at hg; injection hg with hg; simp at hg; omega
end
end Go.Proofs.Ytgijkgngldfdiaa
