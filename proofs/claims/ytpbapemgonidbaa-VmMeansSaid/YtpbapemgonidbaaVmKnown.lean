/- The chapter's rows. Helper. -/
import Derived.Test.YtpbapemgonidbaaVmKinds
namespace Go.Proofs.Ytpbapemgonidbaa
open Go.RowKit
set_option linter.unusedVariables false
set_option linter.unusedSimpArgs false
def KS : List (List (Int × Int)) := [[(1, 7), (1, 5), (1, 2), (15, 1)], [(1, 1), (13, 0)]]
theorem KS_may : codeMay 0 KS = true := by decide
theorem run1 : (runV 1 2 3 (nk KS) 10 0 0 0 0 [] 0 0).sends = [[15, 1, 0, 2, 1, 7]] ∧ (runV 1 2 3 (nk KS) 10 0 0 0 0 [] 0 0).sent = 1 ∧ (runV 1 2 3 (nk KS) 10 0 0 0 0 [] 0 0).vars = [] ∧ (runV 1 2 3 (nk KS) 10 0 0 0 0 [] 0 0).tells = [] := by
  refine ⟨?_, ?_, ?_, ?_⟩ <;> decide +kernel
theorem run2 : (runV 1 2 3 (nk KS) 10 0 0 0 1 [] 0 0).sends = [] ∧ (runV 1 2 3 (nk KS) 10 0 0 0 1 [] 0 0).tells = [] ∧ (runV 1 2 3 (nk KS) 10 0 0 0 1 [] 0 0).vars = [] := by
  refine ⟨?_, ?_, ?_⟩ <;> decide +kernel
/-- What the rows ask of a step: one event is sent. -/
def Step1 (w : World) (e : Ending) (w' : World) : Prop :=
  ∃ vA vc dr sb so sc tA tc, e = .returned (.tuple #[.agg #[.slice vA 0 vc, .int .i64 1, .int .i64 dr, .slice (some ⟨sb, so, none⟩) 1 sc, .slice tA 0 tc], .int .i64 0]) ∧ Below w.heap.size w w' ∧
    w'.cell? ⟨sb, so, none⟩ = some (.int .i64 15) ∧ w'.cell? ⟨sb, so + 1, none⟩ = some (.int .i64 1) ∧ w'.cell? ⟨sb, so + 2, none⟩ = some (.int .i64 0) ∧ w'.cell? ⟨sb, so + 3, none⟩ = some (.int .i64 2) ∧ w'.cell? ⟨sb, so + 4, none⟩ = some (.int .i64 1) ∧ w'.cell? ⟨sb, so + 5, none⟩ = some (.int .i64 7)
def Step2 (w : World) (e : Ending) (w' : World) : Prop :=
  ∃ vA vc st dr sA sc tA tc, e = .returned (.tuple #[.agg #[.slice vA 0 vc, .int .i64 st, .int .i64 dr, .slice sA 0 sc, .slice tA 0 tc], .int .i64 0]) ∧ Below w.heap.size w w'
theorem step1_of {w : World} {e : Ending} {w' : World} {s : Vm} (h : RunOut w s e w') (h1 : s.sends = [[15, 1, 0, 2, 1, 7]]) (h2 : s.sent = 1) (h3 : s.vars = []) (h4 : s.tells = []) : Step1 w e w' := by
  obtain ⟨c, sv, tv, SB, TB, rfl, hh, hB⟩ := h
  have hs := hh.s
  have ht := hh.t
  rw [h1] at hs
  rw [h4] at ht
  obtain ⟨sA, sc, rfl, hr, _⟩ := hs.rd
  obtain ⟨tA, tc, rfl, _⟩ := ht.rd
  obtain ⟨sb, so, rfl, _, hc⟩ := hr.get (k := 0) (by decide)
  rw [h2, h3]
  exact ⟨_, _, _, sb, so, sc, tA, tc, rfl, hB, by simpa using hc 0 _ rfl, hc 1 _ rfl, hc 2 _ rfl, hc 3 _ rfl, hc 4 _ rfl, hc 5 _ rfl⟩
theorem step2_of {w : World} {e : Ending} {w' : World} {s : Vm} (h : RunOut w s e w') (h1 : s.sends = []) (h3 : s.vars = []) (h4 : s.tells = []) : Step2 w e w' := by
  obtain ⟨c, sv, tv, SB, TB, rfl, hh, hB⟩ := h
  have hs := hh.s
  have ht := hh.t
  rw [h1] at hs
  rw [h4] at ht
  obtain ⟨sA, sc, rfl, hr, _⟩ := hs.rd
  obtain ⟨tA, tc, rfl, _⟩ := ht.rd
  rw [h3]
  exact ⟨_, _, _, _, _, _, _, _, rfl, hB⟩
set_option maxRecDepth 100000 in
set_option maxHeartbeats 1600000 in
theorem known_any (w : World) : Calls Try.prog 9 #[] w fun e w' => e = .returned (.bool true) ∧ Below w.heap.size w w' := by
  obtain ⟨w1, hw1⟩ : ∃ w1, (((w.alloc (.cells #[.int .i64 1, .int .i64 7, .int .i64 1, .int .i64 5, .int .i64 1, .int .i64 2, .int .i64 15, .int .i64 1] 62)).alloc (.cells #[.int .i64 1, .int .i64 1, .int .i64 13, .int .i64 0] 62)).alloc (.cells #[.slice (some ⟨w.heap.size, 0, none⟩) 4 4, .slice (some ⟨w.heap.size + 1, 0, none⟩) 2 2] 59)).alloc (.cells #[.int .i64 0, .slice (some ⟨w.heap.size + 1 + 1, 0, none⟩) 2 2] 24) = w1 := ⟨_, rfl⟩
  have n1 : Nw w w1 := by rw [← hw1]; exact ((((Nw.refl w).alloc _).alloc _).alloc _).alloc _
  have hb0 : Blk w1 w.heap.size 62 #[.int .i64 1, .int .i64 7, .int .i64 1, .int .i64 5, .int .i64 1, .int .i64 2, .int .i64 15, .int .i64 1] := by rw [← hw1]; exact (((Blk.last w _ _ rfl).alloc _).alloc _).alloc _
  have hb1 : Blk w1 (w.heap.size + 1) 62 #[.int .i64 1, .int .i64 1, .int .i64 13, .int .i64 0] := by rw [← hw1]; exact ((Blk.last _ _ _ (by simp)).alloc _).alloc _
  have hb2 : Blk w1 (w.heap.size + 1 + 1) 59 #[.slice (some ⟨w.heap.size, 0, none⟩) 4 4, .slice (some ⟨w.heap.size + 1, 0, none⟩) 2 2] := by rw [← hw1]; exact (Blk.last _ _ _ (by simp)).alloc _
  have hb3 : Blk w1 (w.heap.size + 1 + 1 + 1) 24 #[.int .i64 0, .slice (some ⟨w.heap.size + 1 + 1, 0, none⟩) 2 2] := by rw [← hw1]; exact Blk.last _ _ _ (by simp)
  have hk : RKinds w1 (some ⟨w.heap.size + 1 + 1, 0, none⟩) KS := by
    refine .inr ⟨_, _, rfl, fun i hi => ?_⟩
    have hi2 : i < 2 := hi
    have hi3 : i = 0 ∨ i = 1 := by omega
    rcases hi3 with rfl | rfl
    · refine ⟨_, 4, hb2.cell 0, .inr ⟨_, _, rfl, fun j hj => ?_⟩, by simp [KS, maxLen]⟩
      have hj2 : j < 4 := hj
      have hj3 : j = 0 ∨ j = 1 ∨ j = 2 ∨ j = 3 := by omega
      rcases hj3 with rfl | rfl | rfl | rfl
      · exact ⟨hb0.cell 0, hb0.cell 1⟩
      · exact ⟨hb0.cell 2, hb0.cell 3⟩
      · exact ⟨hb0.cell 4, hb0.cell 5⟩
      · exact ⟨hb0.cell 6, hb0.cell 7⟩
    · refine ⟨_, 2, hb2.cell 1, .inr ⟨_, _, rfl, fun j hj => ?_⟩, by simp [KS, maxLen]⟩
      have hj2 : j < 2 := hj
      have hj3 : j = 0 ∨ j = 1 := by omega
      rcases hj3 with rfl | rfl
      · exact ⟨hb1.cell 0, hb1.cell 1⟩
      · exact ⟨hb1.cell 2, hb1.cell 3⟩
  have c0 : w1.cell? ⟨w.heap.size + 1 + 1 + 1, 0, none⟩ = some (.int .i64 0) := hb3.cell 0
  have c1 : w1.cell? ⟨w.heap.size + 1 + 1 + 1, 1, none⟩ = some (.slice (some ⟨w.heap.size + 1 + 1, 0, none⟩) 2 2) := hb3.cell 1
  have KN := Lib.hid (new_ok 0 (some ⟨w.heap.size + 1 + 1, 0, none⟩) KS 2 1 2 3 w1 hk KS_may (by omega) (by omega))
  have N1 := Lib.hid n1
  have HW := Lib.hid hw1
  clear hb0 hb1 hb2 hb3 hk n1 hw1
  go_enter Try.func9, Try.ntmps9
  go_upto_region 2 with (fail)
  rw [HW.out]
  go_wp2_with fail
  refine KN.out.mono ?_
  rintro e w2 ⟨MB, kA, kc, rfl, hM, hK, b2, _⟩
  have N2 := Lib.hid (N1.out.step b2)
  have k1 := run_yes MB 0 kA KS kc 1 2 3 none [] 0 0 0 10 0 0 0 0 w2 hM hK KS_may (by decide) (.inl rfl) (by decide) (by decide)
  have K1 := Lib.hid (k1.mono fun e w' h => step1_of h run1.1 run1.2.1 run1.2.2.1 run1.2.2.2)
  have HM := Lib.hid hM
  have HK := Lib.hid hK
  clear hM hK b2 k1 c0 c1
  go_wp2_with fail
  refine K1.out.mono ?_
  rintro e w3 ⟨vA, vc, dr, sb, so, sc, tA, tc, rfl, b3, s0, s1, s2, s3, s4, s5⟩
  have N3 := Lib.hid (N2.out.step b3)
  have B3 := Lib.hid b3
  have S := Lib.hid (⟨s0, s1, s2, s3, s4, s5⟩ : w3.cell? ⟨sb, so, none⟩ = some (.int .i64 15) ∧ w3.cell? ⟨sb, so + 1, none⟩ = some (.int .i64 1) ∧ w3.cell? ⟨sb, so + 2, none⟩ = some (.int .i64 0) ∧ w3.cell? ⟨sb, so + 3, none⟩ = some (.int .i64 2) ∧ w3.cell? ⟨sb, so + 4, none⟩ = some (.int .i64 1) ∧ w3.cell? ⟨sb, so + 5, none⟩ = some (.int .i64 7))
  clear s0 s1 s2 s3 s4 s5 b3 K1
  go_upto_region 6 with (fail)
  obtain ⟨w4, hw4⟩ : ∃ w4, w3.alloc (.cells #[.slice vA 0 vc, .int .i64 1, .int .i64 dr, .slice (some ⟨sb, so, none⟩) 1 sc, .slice tA 0 tc] 41) = w4 := ⟨_, rfl⟩
  have n4 : Nw w3 w4 := by rw [← hw4]; exact (Nw.refl w3).alloc _
  have hb4 : Blk w4 w3.heap.size 41 #[.slice vA 0 vc, .int .i64 1, .int .i64 dr, .slice (some ⟨sb, so, none⟩) 1 sc, .slice tA 0 tc] := by rw [← hw4]; exact Blk.last _ _ _ rfl
  rw [hw4]
  have k2 := run_yes MB 0 kA KS kc 1 2 3 none [] 0 0 0 10 0 0 0 1 w4 (HM.out.keep (Nw.step B3.out n4)) (HK.out.keep (Nw.step B3.out n4)) KS_may (by decide) (.inl rfl) (by decide) (by decide)
  have K2 := Lib.hid (k2.mono fun e w' h => step2_of h run2.1 run2.2.2 run2.2.1)
  have N4 := Lib.hid n4
  have HB4 := Lib.hid hb4
  clear hw4 n4 hb4 k2
  go_wp2_with fail
  refine K2.out.mono ?_
  rintro e w5 ⟨vA2, vc2, st2, dr2, sA2, sc2, tA2, tc2, rfl, b5⟩
  have N45 := Lib.hid (show Nw w4 w5 from b5)
  clear b5 K2
  go_upto_region 8 with (fail)
  obtain ⟨w6, hw6⟩ : ∃ w6, (w5.alloc (.cells #[.slice vA2 0 vc2, .int .i64 st2, .int .i64 dr2, .slice sA2 0 sc2, .slice tA2 0 tc2] 41)).alloc (.cells #[.int .i64 15, .int .i64 1, .int .i64 0, .int .i64 2, .int .i64 1, .int .i64 7] 47) = w6 := ⟨_, rfl⟩
  have n6 : Nw w5 w6 := by rw [← hw6]; exact ((Nw.refl w5).alloc _).alloc _
  have hb6 : Blk w6 w5.heap.size 41 #[.slice vA2 0 vc2, .int .i64 st2, .int .i64 dr2, .slice sA2 0 sc2, .slice tA2 0 tc2] := by rw [← hw6]; exact (Blk.last _ _ _ rfl).alloc _
  have hb7 : Blk w6 (w5.heap.size + 1) 47 #[.int .i64 15, .int .i64 1, .int .i64 0, .int .i64 2, .int .i64 1, .int .i64 7] := by rw [← hw6]; exact Blk.last _ _ _ (by simp)
  rw [hw6]
  have n46 := N45.out.step n6
  have n36 := N4.out.step n46
  obtain ⟨s0, s1, s2, s3, s4, s5⟩ := S.out
  have s0 := n36.cell s0
  have s1 := n36.cell s1
  have s2 := n36.cell s2
  have s3 := n36.cell s3
  have s4 := n36.cell s4
  have s5 := n36.cell s5
  have hb4 : Blk w6 w3.heap.size 41 _ := HB4.out.below n46 HB4.out.lt
  have x1 : w6.cell? ⟨w3.heap.size, 1, none⟩ = some (.int .i64 1) := hb4.cell 1
  have x3 : w6.cell? ⟨w3.heap.size, 3, none⟩ = some (.slice (some ⟨sb, so, none⟩) 1 sc) := hb4.cell 3
  have y3 : w6.cell? ⟨w5.heap.size, 3, none⟩ = some (.slice sA2 0 sc2) := hb6.cell 3
  have y4 : w6.cell? ⟨w5.heap.size, 4, none⟩ = some (.slice tA2 0 tc2) := hb6.cell 4
  have z0 : w6.cell? ⟨w5.heap.size + 1, 0, none⟩ = some (.int .i64 15) := hb7.cell 0
  have z1 : w6.cell? ⟨w5.heap.size + 1, 1, none⟩ = some (.int .i64 1) := hb7.cell 1
  have z2 : w6.cell? ⟨w5.heap.size + 1, 2, none⟩ = some (.int .i64 0) := hb7.cell 2
  have z3 : w6.cell? ⟨w5.heap.size + 1, 3, none⟩ = some (.int .i64 2) := hb7.cell 3
  have z4 : w6.cell? ⟨w5.heap.size + 1, 4, none⟩ = some (.int .i64 1) := hb7.cell 4
  have z5 : w6.cell? ⟨w5.heap.size + 1, 5, none⟩ = some (.int .i64 7) := hb7.cell 5
  have N6 := Lib.hid (N3.out.step n36)
  clear hw6 n6 hb6 hb7 n46 n36 hb4
  go_quiet (fail)
  go_wp2_with fail
  go_ret
  exact ⟨rfl, Below.many N6.out _⟩
end Go.Proofs.Ytpbapemgonidbaa
