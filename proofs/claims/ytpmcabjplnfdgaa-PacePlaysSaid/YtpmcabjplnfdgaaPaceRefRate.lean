/- The document's pace: Rate. Helper of the paces. -/
import Derived.Test.YtpmcabjplnfdgaaPaceRefB
import Derived.Test.YtpmcabjplnfdgaaPaceRate
namespace Go.Proofs.Ytpmcabjplnfdgaa
open Go.RowKit
set_option linter.unusedVariables false
set_option linter.unusedSimpArgs false
theorem set5g {w : World} {B : Nat} {t : TypeId} {a0 a1 a2 a3 a4 : Value} (h : Blk w B t #[a0, a1, a2, a3, a4]) (v0 v1 v2 v3 v4 : Value) :
    Blk (((((w.setCell ⟨B, 0, none⟩ v0).setCell ⟨B, 1, none⟩ v1).setCell ⟨B, 2, none⟩ v2).setCell ⟨B, 3, none⟩ v3).setCell ⟨B, 4, none⟩ v4) B t #[v0, v1, v2, v3, v4] :=
  ((((h.set_ 0 v0).set_ 1 v1).set_ 2 v2).set_ 3 v3).set_ 4 v4
theorem below5 {w0 w : World} {B base : Nat} (h : Below base w0 w) (hb : base ≤ B) (v0 v1 v2 v3 v4 : Value) :
    Below base w0 (((((w.setCell ⟨B, 0, none⟩ v0).setCell ⟨B, 1, none⟩ v1).setCell ⟨B, 2, none⟩ v2).setCell ⟨B, 3, none⟩ v3).setCell ⟨B, 4, none⟩ v4) :=
  ((((h.setCell hb v0).setCell hb v1).setCell hb v2).setCell hb v3).setCell hb v4
theorem refRate_no (p : Pc) (n d : Int) (w : World) (h : ¬ rateOk n d) :
    Calls Try.prog 14 #[.agg #[.int .i64 p.S, .int .i64 p.B, .int .i64 p.N, .int .i64 p.d, .int .i64 p.C], .int .i64 n, .int .i64 d] w fun e w' => e = .returned (.tuple #[.agg #[.int .i64 p.S, .int .i64 p.B, .int .i64 p.N, .int .i64 p.d, .int .i64 p.C], .int .i64 2]) ∧ Below w.heap.size w w' := by
  unfold rateOk at h
  generalize p.d = D at *
  have hfin : ∀ (W : World), Below w.heap.size w ((w.alloc (.cells #[.int .i64 p.S, .int .i64 p.B, .int .i64 p.N, .int .i64 D, .int .i64 p.C] 33)).alloc (.cells #[.int .i64 p.S, .int .i64 p.B, .int .i64 p.N, .int .i64 D, .int .i64 p.C] 33)) := fun W => ((Below.refl _ _).alloc (Nat.le_refl _) _).alloc (by simp) _
  by_cases h1 : d < 1
  · go_enter Try.func14, Try.ntmps14
    go_wp2
    exact bodyPost_ret (v := .tuple #[.agg #[.int .i64 p.S, .int .i64 p.B, .int .i64 p.N, .int .i64 D, .int .i64 p.C], .int .i64 2]) (by simp [results, Try.results14, go_sem]) rfl ⟨rfl, hfin w⟩
  · by_cases h2 : 1048576 < d
    · go_enter Try.func14, Try.ntmps14
      go_wp2
      exact bodyPost_ret (v := .tuple #[.agg #[.int .i64 p.S, .int .i64 p.B, .int .i64 p.N, .int .i64 D, .int .i64 p.C], .int .i64 2]) (by simp [results, Try.results14, go_sem]) rfl ⟨rfl, hfin w⟩
    · by_cases h3 : n < 0
      · go_enter Try.func14, Try.ntmps14
        go_wp2
        exact bodyPost_ret (v := .tuple #[.agg #[.int .i64 p.S, .int .i64 p.B, .int .i64 p.N, .int .i64 D, .int .i64 p.C], .int .i64 2]) (by simp [results, Try.results14, go_sem]) rfl ⟨rfl, hfin w⟩
      · have h4 : 1048576 < n := by omega
        go_enter Try.func14, Try.ntmps14
        go_wp2
        exact bodyPost_ret (v := .tuple #[.agg #[.int .i64 p.S, .int .i64 p.B, .int .i64 p.N, .int .i64 D, .int .i64 p.C], .int .i64 2]) (by simp [results, Try.results14, go_sem]) rfl ⟨rfl, hfin w⟩
set_option maxHeartbeats 3200000 in
theorem refRate_ok (p : Pc) (n d : Nat) (w : World) (h : p.Ok) (hd : 1 ≤ d) (hd2 : d ≤ 1048576) (hn : n ≤ 1048576) :
    Calls Try.prog 14 #[.agg #[.int .i64 p.S, .int .i64 p.B, .int .i64 p.N, .int .i64 p.d, .int .i64 p.C], .int .i64 (n : Int), .int .i64 (d : Int)] w fun e w' => e = .returned (.tuple #[.agg #[.int .i64 (p.hz p.C : Nat), .int .i64 p.C, .int .i64 n, .int .i64 d, .int .i64 p.C], .int .i64 0]) ∧ Below w.heap.size w w' := by
  have h1 : ¬ (d : Int) < 1 := by omega
  have h2 : ¬ (1048576 : Int) < (d : Int) := by omega
  have h3 : ¬ (1048576 : Int) < (n : Int) := by omega
  have h4 : ¬ (n : Int) < 0 := by omega
  have kh := fun w => refHorizon_at p w h
  have KH := Lib.hid kh
  clear kh
  generalize p.d = D at *
  generalize p.hz p.C = Z at *
  go_enter Try.func14, Try.ntmps14
  go_wp2_with fail
  go_region_with ((go_at_call 17; refine (KH.out _).mono ?_; rintro e w1 ⟨rfl, n1, rfl⟩))
  all_goals go_wp2
  all_goals
    have hb := set5g (w := (((w.alloc (.cells #[.int .i64 p.S, .int .i64 p.B, .int .i64 p.N, .int .i64 D, .int .i64 p.C] 33)).alloc (.cells #[.int .i64 0, .int .i64 0, .int .i64 0, .int .i64 0, .int .i64 0] 33)).alloc (.cells #[.int .i64 p.S, .int .i64 p.B, .int .i64 p.N, .int .i64 D, .int .i64 p.C] 33)).drewN (1 + n1)) (B := w.heap.size + 1) (t := 33) ((Blk.last (w.alloc (.cells #[.int .i64 p.S, .int .i64 p.B, .int .i64 p.N, .int .i64 D, .int .i64 p.C] 33)) 33 #[.int .i64 0, .int .i64 0, .int .i64 0, .int .i64 0, .int .i64 0] (by simp)).alloc (.cells #[.int .i64 p.S, .int .i64 p.B, .int .i64 p.N, .int .i64 D, .int .i64 p.C] 33)) (.int .i64 Z) (.int .i64 p.C) (.int .i64 n) (.int .i64 d) (.int .i64 p.C)
    have hB : Below w.heap.size w _ := below5 (Below.many ((((Below.refl _ w).alloc (Nat.le_refl _) (.cells #[.int .i64 p.S, .int .i64 p.B, .int .i64 p.N, .int .i64 D, .int .i64 p.C] 33)).alloc (by simp) (.cells #[.int .i64 0, .int .i64 0, .int .i64 0, .int .i64 0, .int .i64 0] 33)).alloc (by simp; omega) (.cells #[.int .i64 p.S, .int .i64 p.B, .int .i64 p.N, .int .i64 D, .int .i64 p.C] 33)) (1 + n1)) (show w.heap.size ≤ w.heap.size + 1 by omega) (.int .i64 Z) (.int .i64 p.C) (.int .i64 n) (.int .i64 d) (.int .i64 p.C)
    generalize World.setCell _ _ _ = W at hb hB ⊢
    have c0 := hb.cell 0
    have c1 := hb.cell 1
    have c2 := hb.cell 2
    have c3 := hb.cell 3
    have c4 := hb.cell 4
    simp at c0 c1 c2 c3 c4
    exact bodyPost_ret (v := .tuple #[.agg #[.int .i64 Z, .int .i64 p.C, .int .i64 n, .int .i64 d, .int .i64 p.C], .int .i64 0]) (by simp [results, Try.results14, go_sem, c0, c1, c2, c3, c4]) rfl ⟨rfl, hB⟩
end Go.Proofs.Ytpmcabjplnfdgaa
