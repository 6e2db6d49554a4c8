/- Keys in order: our Compare, Less, ByKey. Helper. -/
import Derived.Test.YtghmldfllieonaaOrdA
namespace Go.Proofs.Ytghmldfllieonaa
open Go.RowKit
set_option linter.unusedVariables false
set_option linter.unusedSimpArgs false
theorem Ky.or_cmp (a b : Ky) : or3 (c3 a.T b.T) (c3 a.O b.O) (c3 a.S b.S) = a.cmp b := by
  unfold or3 c3 Ky.cmp Ky.less
  by_cases h1 : a.T = b.T <;> by_cases h2 : a.O = b.O <;> by_cases h3 : a.T < b.T <;> by_cases h4 : b.T < a.T <;> by_cases h5 : a.O < b.O <;> by_cases h6 : b.O < a.O <;>
    simp [*] <;> first | omega | (have := Eq.symm h1; simp_all) | skip
  all_goals try omega
theorem Ky.cmp_self (a : Ky) : a.cmp a = 0 := by simp [Ky.cmp, Ky.less]
theorem or_blk (x y z : Int) (g : Nat) (W : World) (h : Blk W g 3 #[.int .i64 x, .int .i64 y, .int .i64 z]) :
    Calls Try.prog 42 #[.slice (some ⟨g, 0, none⟩) 3 3] W fun e w' => e = .returned (.int .i64 (or3 x y z)) ∧ w' = W := or_any g x y z W (h.cell 0) (h.cell 1) (h.cell 2)
set_option maxHeartbeats 400000 in
set_option maxRecDepth 100000 in
theorem compare_any (a b : Ky) (w : World) :
    Calls Try.prog 49 #[.agg #[.int .i64 a.T, .int .i64 a.O, .int .i64 a.S], .agg #[.int .i64 b.T, .int .i64 b.O, .int .i64 b.S]] w fun e w' => e = .returned (.int .i64 (a.cmp b)) ∧ Below w.heap.size w w' := by
  by_cases h : a = b
  · subst h
    rw [Ky.cmp_self]
    obtain ⟨a1, a2, a3⟩ := a
    go_enter Try.func49, Try.ntmps49
    go_wp2
    go_ret
    exact ⟨rfl, ((Below.refl _ _).alloc (Nat.le_refl _) _).alloc (by simp) _⟩
  · have ko := Ky.or_cmp a b
    obtain ⟨a1, a2, a3⟩ := a
    obtain ⟨b1, b2, b3⟩ := b
    have hne : ¬ (a1 = b1 ∧ a2 = b2 ∧ a3 = b3) := by rintro ⟨rfl, rfl, rfl⟩; exact h rfl
    dsimp only at ko ⊢
    have KO := Lib.hid ko
    have k1 := Lib.hid (fun a b w => cmp_any a b w)
    have k2 := Lib.hid (fun a b w => cmpI_any a b w)
    have k3 := Lib.hid (fun x y z g W h => or_blk x y z g W h)
    clear ko h
    rw [← KO.out] 
    go_enter Try.func49, Try.ntmps49
    go_upto_region 1 with (fail)
    · skip
      have i0 : Nw w ((w.alloc (.cells #[.int .i64 a1, .int .i64 a2, .int .i64 a3] 32)).alloc (.cells #[.int .i64 b1, .int .i64 b2, .int .i64 b3] 32)) := ((Nw.refl w).alloc _).alloc _
      have u : Blk ((w.alloc (.cells #[.int .i64 a1, .int .i64 a2, .int .i64 a3] 32)).alloc (.cells #[.int .i64 b1, .int .i64 b2, .int .i64 b3] 32)) w.heap.size 32 #[.int .i64 a1, .int .i64 a2, .int .i64 a3] := (Blk.last w _ _ rfl).alloc _
      have v : Blk ((w.alloc (.cells #[.int .i64 a1, .int .i64 a2, .int .i64 a3] 32)).alloc (.cells #[.int .i64 b1, .int .i64 b2, .int .i64 b3] 32)) (w.heap.size + 1) 32 #[.int .i64 b1, .int .i64 b2, .int .i64 b3] := Blk.last _ _ _ (by simp)
      generalize (w.alloc (.cells #[.int .i64 a1, .int .i64 a2, .int .i64 a3] 32)).alloc (.cells #[.int .i64 b1, .int .i64 b2, .int .i64 b3] 32) = wc at i0 u v ⊢
      have u0 : wc.cell? ⟨w.heap.size, 0, none⟩ = some (.int .i64 a1) := u.cell 0
      have u1 : wc.cell? ⟨w.heap.size, 1, none⟩ = some (.int .i64 a2) := u.cell 1
      have u2 : wc.cell? ⟨w.heap.size, 2, none⟩ = some (.int .i64 a3) := u.cell 2
      have v0 : wc.cell? ⟨w.heap.size + 1, 0, none⟩ = some (.int .i64 b1) := v.cell 0
      have v1 : wc.cell? ⟨w.heap.size + 1, 1, none⟩ = some (.int .i64 b2) := v.cell 1
      have v2 : wc.cell? ⟨w.heap.size + 1, 2, none⟩ = some (.int .i64 b3) := v.cell 2
      generalize w.heap.size + 1 = g2 at *
      clear u v
      have hss : ∀ W, Nw wc W → Nw wc W ∧ W.cell? ⟨w.heap.size, 0, none⟩ = some (.int .i64 a1) ∧ W.cell? ⟨w.heap.size, 1, none⟩ = some (.int .i64 a2) ∧ W.cell? ⟨w.heap.size, 2, none⟩ = some (.int .i64 a3) ∧ W.cell? ⟨g2, 0, none⟩ = some (.int .i64 b1) ∧ W.cell? ⟨g2, 1, none⟩ = some (.int .i64 b2) ∧ W.cell? ⟨g2, 2, none⟩ = some (.int .i64 b3) := fun W h => ⟨h, h.cell u0, h.cell u1, h.cell u2, h.cell v0, h.cell v1, h.cell v2⟩
      have HSS := Lib.hid hss
      clear hss
      go_wp2_with fail
      all_goals clear hne u0 u1 u2 v0 v1 v2
      all_goals go_region_held3 (fun W => Nw wc W ∧ W.cell? ⟨w.heap.size, 0, none⟩ = some (.int .i64 a1) ∧ W.cell? ⟨w.heap.size, 1, none⟩ = some (.int .i64 a2) ∧ W.cell? ⟨w.heap.size, 2, none⟩ = some (.int .i64 a3) ∧ W.cell? ⟨g2, 0, none⟩ = some (.int .i64 b1) ∧ W.cell? ⟨g2, 1, none⟩ = some (.int .i64 b2) ∧ W.cell? ⟨g2, 2, none⟩ = some (.int .i64 b3)) ((refine HSS.out _ ?_; repeat (first | assumption | exact Nw.refl wc | refine Nw.drew ?_ | refine Nw.alloc ?_ _))) (first
        | (go_at_call 44; refine (k1.out _ _ _).mono ?_; rintro e w1 ⟨rfl, rfl⟩)
        | (go_at_call 54; refine (k2.out _ _ _).mono ?_; rintro e w1 ⟨rfl, rfl⟩)
        | (go_at_call 42; refine (k3.out _ _ _ _ _ (Blk.drew (Blk.last _ _ _ rfl))).mono ?_; rintro e w1 ⟨rfl, rfl⟩))
      all_goals
        go_wp2_with fail
        go_ret
        exact ⟨ret_int (by simp [*]), i0.step (((Nw.refl wc).alloc _).drew)⟩
theorem byKey_any (a b : Ky) (t k d t' k' d' : Int) (w : World) :
    Calls Try.prog 43 #[.agg #[.int .i64 a.T, .int .i64 a.O, .int .i64 a.S, .int .i64 t, .int .i64 k, .int .i64 d], .agg #[.int .i64 b.T, .int .i64 b.O, .int .i64 b.S, .int .i64 t', .int .i64 k', .int .i64 d']] w fun e w' => e = .returned (.int .i64 (a.cmp b)) ∧ Below w.heap.size w w' := by
  have k := Lib.hid (fun w => compare_any a b w)
  go_enter Try.func43, Try.ntmps43
  go_wp2_with fail
  refine (k.out _).mono ?_
  rintro e w1 ⟨rfl, b1⟩
  have bb : Below w.heap.size w w1 := (((Nw.refl w).alloc _).alloc _).step b1
  clear b1
  go_wp2_with fail
  go_ret
  exact ⟨rfl, bb⟩
end Go.Proofs.Ytghmldfllieonaa
