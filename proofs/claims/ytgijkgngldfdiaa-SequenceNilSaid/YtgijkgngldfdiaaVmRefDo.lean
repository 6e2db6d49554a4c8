/- What the reference's run does: it reckons; a process's number. Helper. -/
import Derived.Test.YtgijkgngldfdiaaVmRefSt
import Derived.Test.YtgijkgngldfdiaaVmStep
namespace Go.Proofs.Ytgijkgngldfdiaa
open Go.RowKit
set_option linter.unusedVariables false
set_option linter.unusedSimpArgs false
theorem toP_ref (x p : Int) (hp : 1 ≤ p) (hp2 : p ≤ 16) : toP x p = if x.tmod p < 1 then x.tmod p + p else x.tmod p := by
  have h := tmod_bd x p hp
  unfold toP
  by_cases h1 : x.tmod p < 1
  · rw [if_pos h1]
    rw [Int.tmod_eq_of_lt (by omega) (by omega)]
    omega
  · rw [if_neg h1]
    have e : (x.tmod p + p - 1).tmod p = x.tmod p - 1 := by
      rw [show x.tmod p + p - 1 = (x.tmod p - 1) + p by omega, Int.tmod_eq_emod_of_nonneg (by omega), Int.add_emod_right]
      exact Int.emod_eq_of_lt (by omega) (by omega)
    rw [e]; omega
section
variable (Hm : Nat → Prop) (XB KB : Nat) (c : Cfg) (s : Vm) (n : Int) (w : World)
set_option maxRecDepth 100000
set_option maxHeartbeats 800000
theorem reckon_no (op : Int) (h : op < 8 ∨ 12 < op) :
    Calls Try.prog 78 #[.pointer (some ⟨KB, 0, none⟩), .int .i64 op] w fun e w' => e = .returned (.bool false) ∧ w' = w := by
  by_cases h1 : op < 8
  · clear h
    go_enter Try.func78, Try.ntmps78
    go_wp2_with fail
    go_ret
    exact ⟨rfl, rfl⟩
  · have h2 : 12 < op := by omega
    clear h
    go_enter Try.func78, Try.ntmps78
    go_wp2_with fail
    go_ret
    exact ⟨rfl, rfl⟩

theorem reckon8 (h : RefH w Hm XB KB c s) :
    Calls Try.prog 78 #[.pointer (some ⟨KB, 0, none⟩), .int .i64 8] w fun e w' => e = .returned (.bool true) ∧ RDone w w' Hm XB KB c (s.pop.pop.push (wrap64 (s.pop.top + s.top))) := by
  have k1 := rtake_any Hm XB KB c s w h
  obtain ⟨t1, h1⟩ : ∃ t, s.top = t := ⟨_, rfl⟩
  obtain ⟨t2, h2⟩ : ∃ t, s.pop.top = t := ⟨_, rfl⟩
  rw [h1] at k1
  rw [h1, h2]
  have K1 := Lib.hid k1
  have H2 := Lib.hid h2
  clear h h1 h2 k1
  go_enter Try.func78, Try.ntmps78
  go_wp2_with fail
  refine K1.out.mono ?_
  rintro e w1 ⟨rfl, d1⟩
  have k2 := rtake_any _ XB KB c s.pop w1 d1.run
  rw [H2.out] at k2
  have K2 := Lib.hid k2
  have D1 := Lib.hid d1
  clear d1 k2 K1
  go_wp2_with fail
  refine K2.out.mono ?_
  rintro e w2 ⟨rfl, d2⟩
  have D2 := Lib.hid (D1.out.then d2)
  have P := Lib.hid (rpush_any _ XB KB c s.pop.pop (wrap64 (t2 + t1)) w2 D2.out.run)
  clear d2 K2 D1
  go_wp2_with fail
  refine P.out.mono ?_
  rintro e w3 ⟨rfl, d3⟩
  have D3 := Lib.hid (D2.out.then d3)
  clear d3 P D2
  go_wp2_with fail
  go_ret
  exact ⟨rfl, D3.out⟩
theorem reckon9 (h : RefH w Hm XB KB c s) :
    Calls Try.prog 78 #[.pointer (some ⟨KB, 0, none⟩), .int .i64 9] w fun e w' => e = .returned (.bool true) ∧ RDone w w' Hm XB KB c (s.pop.pop.push (wrap64 (s.pop.top - s.top))) := by
  have k1 := rtake_any Hm XB KB c s w h
  obtain ⟨t1, h1⟩ : ∃ t, s.top = t := ⟨_, rfl⟩
  obtain ⟨t2, h2⟩ : ∃ t, s.pop.top = t := ⟨_, rfl⟩
  rw [h1] at k1
  rw [h1, h2]
  have K1 := Lib.hid k1
  have H2 := Lib.hid h2
  clear h h1 h2 k1
  go_enter Try.func78, Try.ntmps78
  go_wp2_with fail
  refine K1.out.mono ?_
  rintro e w1 ⟨rfl, d1⟩
  have k2 := rtake_any _ XB KB c s.pop w1 d1.run
  rw [H2.out] at k2
  have K2 := Lib.hid k2
  have D1 := Lib.hid d1
  clear d1 k2 K1
  go_wp2_with fail
  refine K2.out.mono ?_
  rintro e w2 ⟨rfl, d2⟩
  have D2 := Lib.hid (D1.out.then d2)
  have P := Lib.hid (rpush_any _ XB KB c s.pop.pop (wrap64 (t2 - t1)) w2 D2.out.run)
  clear d2 K2 D1
  go_wp2_with fail
  refine P.out.mono ?_
  rintro e w3 ⟨rfl, d3⟩
  have D3 := Lib.hid (D2.out.then d3)
  clear d3 P D2
  go_wp2_with fail
  go_ret
  exact ⟨rfl, D3.out⟩
theorem reckon10 (h : RefH w Hm XB KB c s) :
    Calls Try.prog 78 #[.pointer (some ⟨KB, 0, none⟩), .int .i64 10] w fun e w' => e = .returned (.bool true) ∧ RDone w w' Hm XB KB c (s.pop.pop.push (wrap64 (s.pop.top * s.top))) := by
  have k1 := rtake_any Hm XB KB c s w h
  obtain ⟨t1, h1⟩ : ∃ t, s.top = t := ⟨_, rfl⟩
  obtain ⟨t2, h2⟩ : ∃ t, s.pop.top = t := ⟨_, rfl⟩
  rw [h1] at k1
  rw [h1, h2]
  have K1 := Lib.hid k1
  have H2 := Lib.hid h2
  clear h h1 h2 k1
  go_enter Try.func78, Try.ntmps78
  go_wp2_with fail
  refine K1.out.mono ?_
  rintro e w1 ⟨rfl, d1⟩
  have k2 := rtake_any _ XB KB c s.pop w1 d1.run
  rw [H2.out] at k2
  have K2 := Lib.hid k2
  have D1 := Lib.hid d1
  clear d1 k2 K1
  go_wp2_with fail
  refine K2.out.mono ?_
  rintro e w2 ⟨rfl, d2⟩
  have D2 := Lib.hid (D1.out.then d2)
  have P := Lib.hid (rpush_any _ XB KB c s.pop.pop (wrap64 (t2 * t1)) w2 D2.out.run)
  clear d2 K2 D1
  go_wp2_with fail
  refine P.out.mono ?_
  rintro e w3 ⟨rfl, d3⟩
  have D3 := Lib.hid (D2.out.then d3)
  clear d3 P D2
  go_wp2_with fail
  go_ret
  exact ⟨rfl, D3.out⟩
theorem reckon11 (h : RefH w Hm XB KB c s) :
    Calls Try.prog 78 #[.pointer (some ⟨KB, 0, none⟩), .int .i64 11] w fun e w' => e = .returned (.bool true) ∧ RDone w w' Hm XB KB c (s.pop.pop.push (if s.pop.top < s.top then 1 else 0)) := by
  have k1 := rtake_any Hm XB KB c s w h
  obtain ⟨t1, h1⟩ : ∃ t, s.top = t := ⟨_, rfl⟩
  obtain ⟨t2, h2⟩ : ∃ t, s.pop.top = t := ⟨_, rfl⟩
  rw [h1] at k1
  rw [h1, h2]
  have K1 := Lib.hid k1
  have H2 := Lib.hid h2
  clear h h1 h2 k1
  by_cases hc : t2 < t1
  · rw [if_pos hc]
    go_enter Try.func78, Try.ntmps78
    go_wp2_with fail
    refine K1.out.mono ?_
    rintro e w1 ⟨rfl, d1⟩
    have k2 := rtake_any _ XB KB c s.pop w1 d1.run
    rw [H2.out] at k2
    have K2 := Lib.hid k2
    have D1 := Lib.hid d1
    clear d1 k2 K1
    go_wp2_with fail
    refine K2.out.mono ?_
    rintro e w2 ⟨rfl, d2⟩
    have D2 := Lib.hid (D1.out.then d2)
    have P := Lib.hid (rpush_any _ XB KB c s.pop.pop (1) w2 D2.out.run)
    clear d2 K2 D1
    go_wp2_with fail
    refine P.out.mono ?_
    rintro e w3 ⟨rfl, d3⟩
    have D3 := Lib.hid (D2.out.then d3)
    clear d3 P D2
    go_wp2_with fail
    go_ret
    exact ⟨rfl, D3.out⟩
  · rw [if_neg hc]
    go_enter Try.func78, Try.ntmps78
    go_wp2_with fail
    refine K1.out.mono ?_
    rintro e w1 ⟨rfl, d1⟩
    have k2 := rtake_any _ XB KB c s.pop w1 d1.run
    rw [H2.out] at k2
    have K2 := Lib.hid k2
    have D1 := Lib.hid d1
    clear d1 k2 K1
    go_wp2_with fail
    refine K2.out.mono ?_
    rintro e w2 ⟨rfl, d2⟩
    have D2 := Lib.hid (D1.out.then d2)
    have P := Lib.hid (rpush_any _ XB KB c s.pop.pop (0) w2 D2.out.run)
    clear d2 K2 D1
    go_wp2_with fail
    refine P.out.mono ?_
    rintro e w3 ⟨rfl, d3⟩
    have D3 := Lib.hid (D2.out.then d3)
    clear d3 P D2
    go_wp2_with fail
    go_ret
    exact ⟨rfl, D3.out⟩
theorem reckon12 (h : RefH w Hm XB KB c s) :
    Calls Try.prog 78 #[.pointer (some ⟨KB, 0, none⟩), .int .i64 12] w fun e w' => e = .returned (.bool true) ∧ RDone w w' Hm XB KB c (s.pop.pop.push (if s.pop.top = s.top then 1 else 0)) := by
  have k1 := rtake_any Hm XB KB c s w h
  obtain ⟨t1, h1⟩ : ∃ t, s.top = t := ⟨_, rfl⟩
  obtain ⟨t2, h2⟩ : ∃ t, s.pop.top = t := ⟨_, rfl⟩
  rw [h1] at k1
  rw [h1, h2]
  have K1 := Lib.hid k1
  have H2 := Lib.hid h2
  clear h h1 h2 k1
  by_cases hc : t2 = t1
  · rw [if_pos hc]
    subst hc
    go_enter Try.func78, Try.ntmps78
    go_wp2_with fail
    refine K1.out.mono ?_
    rintro e w1 ⟨rfl, d1⟩
    have k2 := rtake_any _ XB KB c s.pop w1 d1.run
    rw [H2.out] at k2
    have K2 := Lib.hid k2
    have D1 := Lib.hid d1
    clear d1 k2 K1
    go_wp2_with fail
    refine K2.out.mono ?_
    rintro e w2 ⟨rfl, d2⟩
    have D2 := Lib.hid (D1.out.then d2)
    have P := Lib.hid (rpush_any _ XB KB c s.pop.pop (1) w2 D2.out.run)
    clear d2 K2 D1
    go_wp2_with fail
    refine P.out.mono ?_
    rintro e w3 ⟨rfl, d3⟩
    have D3 := Lib.hid (D2.out.then d3)
    clear d3 P D2
    go_wp2_with fail
    go_ret
    exact ⟨rfl, D3.out⟩
  · rw [if_neg hc]
    have hb : (t2 == t1) = false := beq_eq_false_iff_ne.2 hc
    go_enter Try.func78, Try.ntmps78
    go_wp2_with fail
    refine K1.out.mono ?_
    rintro e w1 ⟨rfl, d1⟩
    have k2 := rtake_any _ XB KB c s.pop w1 d1.run
    rw [H2.out] at k2
    have K2 := Lib.hid k2
    have D1 := Lib.hid d1
    clear d1 k2 K1
    go_wp2_with fail
    refine K2.out.mono ?_
    rintro e w2 ⟨rfl, d2⟩
    have D2 := Lib.hid (D1.out.then d2)
    have P := Lib.hid (rpush_any _ XB KB c s.pop.pop (0) w2 D2.out.run)
    clear d2 K2 D1
    go_wp2_with fail
    refine P.out.mono ?_
    rintro e w3 ⟨rfl, d3⟩
    have D3 := Lib.hid (D2.out.then d3)
    clear d3 P D2
    go_wp2_with fail
    go_ret
    exact ⟨rfl, D3.out⟩
theorem reckon_yes (op : Nat) (h : RefH w Hm XB KB c s) (h1 : 8 ≤ op) (h2 : op ≤ 12) (x : Int) :
    Calls Try.prog 78 #[.pointer (some ⟨KB, 0, none⟩), .int .i64 op] w fun e w' => e = .returned (.bool true) ∧ RDone w w' Hm XB KB c (s.step c op x) := by
  have hc : op = 8 ∨ op = 9 ∨ op = 10 ∨ op = 11 ∨ op = 12 := by omega
  rcases hc with rfl | rfl | rfl | rfl | rfl
  · exact reckon8 Hm XB KB c s w h
  · exact reckon9 Hm XB KB c s w h
  · exact reckon10 Hm XB KB c s w h
  · exact reckon11 Hm XB KB c s w h
  · exact reckon12 Hm XB KB c s w h
theorem to_any (x procs : Int) (hp : 1 ≤ procs) (hp2 : procs ≤ 16) :
    Calls Try.prog 107 #[.int .i64 x, .int .i64 procs] w fun e w' => e = .returned (.int .i64 (toP x procs)) ∧ w' = w := by
  rw [toP_ref x procs hp hp2]
  have hb := tmod_bd x procs hp
  by_cases h1 : x.tmod procs < 1
  · rw [if_pos h1]
    go_enter Try.func107, Try.ntmps107
    go_wp2_with fail
    go_ret
    exact ⟨rfl, rfl⟩
  · rw [if_neg h1]
    go_enter Try.func107, Try.ntmps107
    go_wp2_with fail
    go_ret
    exact ⟨rfl, rfl⟩
end
end Go.Proofs.Ytgijkgngldfdiaa
