/- Events in order: the program's. Helper. -/
import Derived.Test.YtefgpnalahijgaaOrdStable
import Derived.Test.YtefgpnalahijgaaOrdKnown
namespace Go.Proofs.Ytefgpnalahijgaa
open Go.RowKit
set_option linter.unusedVariables false
set_option linter.unusedSimpArgs false
theorem sortStable_any (g o n c : Nat) (f : Nat → Ev) (w : World) (h : EvsAt w g o n f) (hn : n ≤ 1000) :
    Calls Try.prog 25 #[.slice (some ⟨g, o, none⟩) n c, .func (.func 10) #[] #[]] w fun e w' => e = .returned (.tuple #[]) ∧ ∃ f', Std w w' g o n f f' ∧ Rise f' 0 n := by
  have k := Lib.hid (stable_any g o n c f w h hn)
  go_enter Try.func25, Try.ntmps25
  go_wp2_with fail
  refine k.out.mono ?_
  rintro e w1 ⟨rfl, f', hi, hr⟩
  go_wp2_with fail
  go_end0
  exact ⟨rfl, f', hi, hr⟩
theorem sorted_any (g o n c : Nat) (f : Nat → Ev) (w : World) (h : EvsAt w g o n f) (h0 : 0 < n) (hn : n ≤ 1000) :
    Calls Try.prog 15 #[.slice (some ⟨g, o, none⟩) n c] w fun e w' => ∃ g' o' c' f', e = .returned (.slice (some ⟨g', o', none⟩) n c') ∧ EvsAt w' g' o' n f' ∧ Kept n f f' ∧ Rise f' 0 n ∧ Nw w w' ∧ w.heap.size ≤ g' := by
  have k := Lib.hid (clone_evs g o n c f w h h0 (by omega))
  go_enter Try.func15, Try.ntmps15
  go_wp2_with fail
  refine k.out.mono ?_
  rintro e w1 ⟨g', o', c', rfl, h1, b1, hg⟩
  have k2 := Lib.hid (sortStable_any g' o' n c' f w1 h1 hn)
  go_wp2_with fail
  refine k2.out.mono ?_
  rintro e w2 ⟨rfl, f', hi, hr⟩
  go_wp2_with fail
  go_ret
  exact ⟨g', o', c', f', rfl, hi.at_, hi.mgd.kept, hr, Below.trans b1 (hi.chg.below (fun i _ h => by omega) b1.size), hg⟩
/-- Of none. -/
theorem clone_none (w : World) :
    Calls Try.prog 24 #[.slice none 0 0] w fun e w' => e = .returned (.slice none 0 0) ∧ w' = w := by
  have hn' := fun w => Lib.run_eql_slice_nil (P := Try.prog) w 33 28 none 0 0 0 0 Try.underlying33
  go_enter Try.func24, Try.ntmps24
  go_wp2_with fail
  go_ret
  exact ⟨rfl, rfl⟩
theorem ins_none (w : World) :
    Calls Try.prog 30 #[.slice none 0 0, .int .i64 0, .int .i64 0, .func (.func 10) #[] #[]] w fun e w' => e = .returned (.tuple #[]) ∧ w' = w := by
  go_enter Try.func30, Try.ntmps30
  go_wp2_with fail
  go_loopw [8] (fun i wr => i = .int .i64 1 ∧ wr = w) (fun _ _ => 0)
  case atStart => exact ⟨rfl, rfl⟩
  case round =>
    obtain ⟨rfl, rfl⟩ := hrel
    go_wp2_with fail
    go_end0
    exact ⟨rfl, rfl⟩
theorem stable_none (w : World) :
    Calls Try.prog 29 #[.slice none 0 0, .int .i64 0, .func (.func 10) #[] #[]] w fun e w' => e = .returned (.tuple #[]) ∧ w' = w := by
  have k := Lib.hid (ins_none w)
  go_enter Try.func29, Try.ntmps29
  go_wp2
  go_loopw [7, 8] (fun a b wr => a = .int .i64 0 ∧ b = .int .i64 20 ∧ Hid (wr = w)) (fun _ _ _ => 0)
  case atStart => exact ⟨rfl, rfl, Lib.hid rfl⟩
  case round =>
    obtain ⟨rfl, rfl, hw⟩ := hrel
    have hw := hw.out
    subst hw
    go_wp2_with fail
    refine k.out.mono ?_
    rintro e w1 ⟨rfl, hq⟩
    rw [hq]
    clear hq w1
    go_wp2_with fail
    go_loopw [6] (fun b wx => b = .int .i64 20 ∧ Hid (wx = wr)) (fun _ _ => 0)
    case atStart => exact ⟨rfl, Lib.hid rfl⟩
    case round =>
      obtain ⟨rfl, hw⟩ := hrel
      go_wp2_with fail
      go_end0
      exact ⟨rfl, hw.out⟩
theorem sorted_none (w : World) :
    Calls Try.prog 15 #[.slice none 0 0] w fun e w' => e = .returned (.slice none 0 0) ∧ w' = w := by
  have k := Lib.hid (clone_none w)
  have k3 := Lib.hid (stable_none w)
  have k2 : Hid (Calls Try.prog 25 #[.slice none 0 0, .func (.func 10) #[] #[]] w fun e w' => e = .returned (.tuple #[]) ∧ w' = w) := Lib.hid (by
    go_enter Try.func25, Try.ntmps25
    go_wp2_with fail
    refine k3.out.mono ?_
    rintro e w1 ⟨rfl, hq⟩
    rw [hq]
    clear hq w1
    go_wp2_with fail
    go_end0
    exact ⟨rfl, rfl⟩)
  go_enter Try.func15, Try.ntmps15
  go_wp2_with fail
  refine k.out.mono ?_
  rintro e w1 ⟨rfl, hq⟩
  rw [hq]
  clear hq w1
  go_wp2_with fail
  refine k2.out.mono ?_
  rintro e w1 ⟨rfl, hq⟩
  rw [hq]
  clear hq w1
  go_wp2_with fail
  go_ret
  exact ⟨rfl, rfl⟩
end Go.Proofs.Ytefgpnalahijgaa
