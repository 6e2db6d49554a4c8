/- Our pace: Rate. Helper of the paces. -/
import Derived.Test.YtpmcabjplnfdgaaPaceA
import Derived.Deep.RegionHeld3
import Derived.Deep.RegionLaw
import Derived.Outline
namespace Go.Proofs.Ytpmcabjplnfdgaa
open Go.RowKit
set_option linter.unusedVariables false
set_option linter.unusedSimpArgs false
theorem set5 {w : World} {B : Nat} {p : Pc} (h : Blk w B 48 (pcells p)) (v0 v1 v2 v3 v4 : Value) :
    Blk (((((w.setCell ⟨B, 0, none⟩ v0).setCell ⟨B, 1, none⟩ v1).setCell ⟨B, 2, none⟩ v2).setCell ⟨B, 3, none⟩ v3).setCell ⟨B, 4, none⟩ v4) B 48 #[v0, v1, v2, v3, v4] :=
  ((((h.set_ 0 v0).set_ 1 v1).set_ 2 v2).set_ 3 v3).set_ 4 v4
theorem chg5 {w0 w : World} {B : Nat} (h : Chg (fun i => i = B) w0 w) (v0 v1 v2 v3 v4 : Value) :
    Chg (fun i => i = B) w0 (((((w.setCell ⟨B, 0, none⟩ v0).setCell ⟨B, 1, none⟩ v1).setCell ⟨B, 2, none⟩ v2).setCell ⟨B, 3, none⟩ v3).setCell ⟨B, 4, none⟩ v4) :=
  ((((h.setCell (.inl rfl) v0).setCell (.inl rfl) v1).setCell (.inl rfl) v2).setCell (.inl rfl) v3).setCell (.inl rfl) v4
def rateOk (n d : Int) : Prop := 1 ≤ d ∧ d ≤ 1048576 ∧ 0 ≤ n ∧ n ≤ 1048576
set_option maxRecDepth 100000 in
theorem Rate_no (B : Nat) (n d : Int) (w : World) (h : ¬ rateOk n d) :
    Calls Try.prog 8 #[.pointer (some ⟨B, 0, none⟩), .int .i64 n, .int .i64 d] w fun e w' => e = .returned (.int .i64 2) ∧ w = w' := by
  unfold rateOk at h
  by_cases h1 : d < 1
  · go_enter Try.func8, Try.ntmps8
    go_wp2
    go_ret
    exact ⟨rfl, rfl⟩
  · by_cases h2 : 1048576 < d
    · go_enter Try.func8, Try.ntmps8
      go_wp2
      go_ret
      exact ⟨rfl, rfl⟩
    · by_cases h3 : n < 0
      · go_enter Try.func8, Try.ntmps8
        go_wp2
        go_ret
        exact ⟨rfl, rfl⟩
      · have h4 : 1048576 < n := by omega
        go_enter Try.func8, Try.ntmps8
        go_wp2
        go_ret
        exact ⟨rfl, rfl⟩
set_option maxHeartbeats 3200000 in
set_option maxRecDepth 100000 in
theorem Rate_ok (B : Nat) (p : Pc) (n d : Nat) (w : World) (h : PC w B p) (hd : 1 ≤ d) (hd2 : d ≤ 1048576) (hn : n ≤ 1048576) :
    Calls Try.prog 8 #[.pointer (some ⟨B, 0, none⟩), .int .i64 (n : Int), .int .i64 (d : Int)] w fun e w' => e = .returned (.int .i64 0) ∧ PC w' B (p.rated n d) ∧ Chg (fun i => i = B) w w' := by
  obtain ⟨c0, c1, c2, c3, c4⟩ := h.cells
  have hf := fun i => h.1.frozen i
  have P0 := Lib.hid h
  have h1 : ¬ (d : Int) < 1 := by omega
  have h2 : ¬ (1048576 : Int) < (d : Int) := by omega
  have h3 : ¬ (1048576 : Int) < (n : Int) := by omega
  have h4 : ¬ (n : Int) < 0 := by omega
  go_enter Try.func8, Try.ntmps8
  go_wp2_with fail
  go_region_with ((go_at_call 11; refine (Horizon_any B p _ (P0.out.new (Below.refl _ _).drew)).mono ?_; rintro e w1 ⟨rfl, n1, rfl⟩))
  all_goals go_wp2
  all_goals
    go_ret
    exact ⟨rfl, ⟨set5 (w := w.drewN (1 + n1)) P0.out.1 _ _ _ _ _, P0.out.2.rated hn hd2⟩, chg5 (w := w.drewN (1 + n1)) (Chg.many (Chg.refl _ w) _) _ _ _ _ _⟩
end Go.Proofs.Ytpmcabjplnfdgaa
