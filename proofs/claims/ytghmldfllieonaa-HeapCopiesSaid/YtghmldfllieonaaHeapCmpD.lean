/- Items compared: that no draw is taken back. Helper. -/
import Derived.Test.YtghmldfllieonaaHeapCmp
import Derived.Sort.Grow
namespace Go.Proofs.Ytghmldfllieonaa
open Go.RowKit Go.Sort
set_option linter.unusedVariables false
set_option linter.unusedSimpArgs false
/-- New blocks and draws. -/
def Nd (w W : World) : Prop := Nw w W ∧ w.drawn ≤ W.drawn
theorem Nd.refl (w : World) : Nd w w := ⟨Nw.refl w, Nat.le_refl _⟩
theorem Nd.step {w W W' : World} (h : Nd w W) (h' : Nd W W') : Nd w W' := ⟨h.1.step h'.1, Nat.le_trans h.2 h'.2⟩
theorem Nd.drew {w W : World} (h : Nd w W) : Nd w W.drew := ⟨h.1.drew, Nat.le_succ_of_le h.2⟩
theorem Nd.alloc {w W : World} (h : Nd w W) (o : Obj) : Nd w (W.alloc o) := ⟨h.1.alloc o, h.2⟩
theorem Nd.cell {w W : World} (h : Nd w W) {p : Addr} {v : Value} (c : w.cell? p = some v) : W.cell? p = some v := h.1.cell c
theorem Nd.grown {w W : World} (h : Nd w W) : ∃ q os', W = grow (w.drewN q) os' := by
  obtain ⟨⟨h1, h2, h3, h4, h5⟩, h6⟩ := h
  refine ⟨W.drawn - w.drawn, W.heap.extract w.heap.size W.heap.size, ?_⟩
  obtain ⟨heap, tape, drawn, os, output⟩ := W
  simp only at h1 h2 h3 h4 h5 h6
  subst h1 h2 h3
  unfold grow World.drewN
  have e1 : w.drawn + (drawn - w.drawn) = drawn := by omega
  have e2 : w.heap ++ heap.extract w.heap.size heap.size = heap := by
    apply Array.ext_getElem?
    intro k
    by_cases hk : k < w.heap.size
    · rw [Array.getElem?_append_left hk, h5 k hk]
    · rw [Array.getElem?_append_right (by omega), Array.getElem?_extract]
      by_cases hk2 : k < heap.size
      · rw [if_pos (by omega), show w.heap.size + (k - w.heap.size) = k by omega]
      · rw [if_neg (by omega), Array.getElem?_eq_none (by omega)]
  simp only [e1, e2]
set_option maxHeartbeats 400000 in
set_option maxRecDepth 100000 in
theorem compareD_any (a b : Ky) (w : World) :
    Calls Try.prog 49 #[.agg #[.int .i64 a.T, .int .i64 a.O, .int .i64 a.S], .agg #[.int .i64 b.T, .int .i64 b.O, .int .i64 b.S]] w fun e w' => e = .returned (.int .i64 (a.cmp b)) ∧ Nd w w' := by
  by_cases h : a = b
  · subst h
    rw [Ky.cmp_self]
    obtain ⟨a1, a2, a3⟩ := a
    go_enter Try.func49, Try.ntmps49
    go_wp2
    go_ret
    exact ⟨rfl, ((Nd.refl _).alloc _).alloc _⟩
  · have ko := Ky.or_cmp a b
    obtain ⟨a1, a2, a3⟩ := a
    obtain ⟨b1, b2, b3⟩ := b
    have hne : ¬ (a1 = b1 ∧ a2 = b2 ∧ a3 = b3) := by rintro ⟨rfl, rfl, rfl⟩; exact h rfl
    dsimp only at ko ⊢
    have KO := Lib.hid ko
    have k1 := Lib.hid (fun a b w => cmp_any a b w)
    have k2 := Lib.hid (fun a b w => cmpI_any a b w)
    have k3 := Lib.hid (fun x y z g W h => or_blk x y z g W h)
    clear ko h
    rw [← KO.out] 
    go_enter Try.func49, Try.ntmps49
    go_upto_region 1 with (fail)
    · skip
      have i0 : Nd w ((w.alloc (.cells #[.int .i64 a1, .int .i64 a2, .int .i64 a3] 32)).alloc (.cells #[.int .i64 b1, .int .i64 b2, .int .i64 b3] 32)) := ((Nd.refl w).alloc _).alloc _
      have u : Blk ((w.alloc (.cells #[.int .i64 a1, .int .i64 a2, .int .i64 a3] 32)).alloc (.cells #[.int .i64 b1, .int .i64 b2, .int .i64 b3] 32)) w.heap.size 32 #[.int .i64 a1, .int .i64 a2, .int .i64 a3] := (Blk.last w _ _ rfl).alloc _
      have v : Blk ((w.alloc (.cells #[.int .i64 a1, .int .i64 a2, .int .i64 a3] 32)).alloc (.cells #[.int .i64 b1, .int .i64 b2, .int .i64 b3] 32)) (w.heap.size + 1) 32 #[.int .i64 b1, .int .i64 b2, .int .i64 b3] := Blk.last _ _ _ (by simp)
      generalize (w.alloc (.cells #[.int .i64 a1, .int .i64 a2, .int .i64 a3] 32)).alloc (.cells #[.int .i64 b1, .int .i64 b2, .int .i64 b3] 32) = wc at i0 u v ⊢
      have u0 : wc.cell? ⟨w.heap.size, 0, none⟩ = some (.int .i64 a1) := u.cell 0
      have u1 : wc.cell? ⟨w.heap.size, 1, none⟩ = some (.int .i64 a2) := u.cell 1
      have u2 : wc.cell? ⟨w.heap.size, 2, none⟩ = some (.int .i64 a3) := u.cell 2
      have v0 : wc.cell? ⟨w.heap.size + 1, 0, none⟩ = some (.int .i64 b1) := v.cell 0
      have v1 : wc.cell? ⟨w.heap.size + 1, 1, none⟩ = some (.int .i64 b2) := v.cell 1
      have v2 : wc.cell? ⟨w.heap.size + 1, 2, none⟩ = some (.int .i64 b3) := v.cell 2
      generalize w.heap.size + 1 = g2 at *
      clear u v
      have hss : ∀ W, Nd wc W → Nd wc W ∧ W.cell? ⟨w.heap.size, 0, none⟩ = some (.int .i64 a1) ∧ W.cell? ⟨w.heap.size, 1, none⟩ = some (.int .i64 a2) ∧ W.cell? ⟨w.heap.size, 2, none⟩ = some (.int .i64 a3) ∧ W.cell? ⟨g2, 0, none⟩ = some (.int .i64 b1) ∧ W.cell? ⟨g2, 1, none⟩ = some (.int .i64 b2) ∧ W.cell? ⟨g2, 2, none⟩ = some (.int .i64 b3) := fun W h => ⟨h, h.cell u0, h.cell u1, h.cell u2, h.cell v0, h.cell v1, h.cell v2⟩
      have HSS := Lib.hid hss
      clear hss
      go_wp2_with fail
      all_goals clear hne u0 u1 u2 v0 v1 v2
      all_goals go_region_held3 (fun W => Nd wc W ∧ W.cell? ⟨w.heap.size, 0, none⟩ = some (.int .i64 a1) ∧ W.cell? ⟨w.heap.size, 1, none⟩ = some (.int .i64 a2) ∧ W.cell? ⟨w.heap.size, 2, none⟩ = some (.int .i64 a3) ∧ W.cell? ⟨g2, 0, none⟩ = some (.int .i64 b1) ∧ W.cell? ⟨g2, 1, none⟩ = some (.int .i64 b2) ∧ W.cell? ⟨g2, 2, none⟩ = some (.int .i64 b3)) ((refine HSS.out _ ?_; repeat (first | assumption | exact Nd.refl wc | refine Nd.drew ?_ | refine Nd.alloc ?_ _))) (first
        | (go_at_call 44; refine (k1.out _ _ _).mono ?_; rintro e w1 ⟨rfl, rfl⟩)
        | (go_at_call 54; refine (k2.out _ _ _).mono ?_; rintro e w1 ⟨rfl, rfl⟩)
        | (go_at_call 42; refine (k3.out _ _ _ _ _ (Blk.drew (Blk.last _ _ _ rfl))).mono ?_; rintro e w1 ⟨rfl, rfl⟩))
      all_goals
        go_wp2_with fail
        go_ret
        exact ⟨ret_int (by simp [*]), i0.step (((Nd.refl wc).alloc _).drew)⟩
theorem byKeyD_any (a b : Ky) (t k d t' k' d' : Int) (w : World) :
    Calls Try.prog 43 #[.agg #[.int .i64 a.T, .int .i64 a.O, .int .i64 a.S, .int .i64 t, .int .i64 k, .int .i64 d], .agg #[.int .i64 b.T, .int .i64 b.O, .int .i64 b.S, .int .i64 t', .int .i64 k', .int .i64 d']] w fun e w' => e = .returned (.int .i64 (a.cmp b)) ∧ Nd w w' := by
  have k := Lib.hid (fun w => compareD_any a b w)
  go_enter Try.func43, Try.ntmps43
  go_wp2_with fail
  refine (k.out _).mono ?_
  rintro e w1 ⟨rfl, b1⟩
  have bb : Nd w w1 := (((Nd.refl w).alloc _).alloc _).step b1
  clear b1
  go_wp2_with fail
  go_ret
  exact ⟨rfl, bb⟩
set_option maxHeartbeats 1600000
set_option maxRecDepth 100000
theorem byKeyID_any (a b : It) (w : World) : Calls Try.prog 32 #[.agg a.c.toArray, .agg b.c.toArray] w fun e w' => e = .returned (.int .i64 (a.cmp b)) ∧ Nd w w' := by
  obtain ⟨⟨a1, a2, a3⟩, a4, a5, a6, a7⟩ := a
  obtain ⟨⟨b1, b2, b3⟩, b4, b5, b6, b7⟩ := b
  obtain ⟨R, hR⟩ : ∃ R, Ky.cmp ⟨a1, a2, a3⟩ ⟨b1, b2, b3⟩ = R := ⟨_, rfl⟩
  obtain ⟨R2, hR2⟩ : ∃ R2, c3 a7 b7 = R2 := ⟨_, rfl⟩
  have k1 := fun w => byKeyD_any ⟨a1, a2, a3⟩ ⟨b1, b2, b3⟩ a4 a5 a6 b4 b5 b6 w
  have k2 := fun w => cmp_any a7 b7 w
  rw [hR] at k1
  rw [hR2] at k2
  have k3 := fun g w h => or2_any g R R2 w h
  show Calls Try.prog 32 #[.agg #[.int .i64 a1, .int .i64 a2, .int .i64 a3, .int .i64 a4, .int .i64 a5, .int .i64 a6, .int .i64 a7], .agg #[.int .i64 b1, .int .i64 b2, .int .i64 b3, .int .i64 b4, .int .i64 b5, .int .i64 b6, .int .i64 b7]] w fun e w' => e = .returned (.int .i64 (or2 (Ky.cmp ⟨a1, a2, a3⟩ ⟨b1, b2, b3⟩) (c3 a7 b7))) ∧ Nd w w'
  rw [hR, hR2]
  dsimp only at k1
  have K1 := Lib.hid k1
  have K2 := Lib.hid k2
  have K3 := Lib.hid k3
  clear k1 k2 k3 hR hR2
  have i0 : Nd w ((w.alloc (.cells #[.int .i64 a1, .int .i64 a2, .int .i64 a3, .int .i64 a4, .int .i64 a5, .int .i64 a6, .int .i64 a7] 36)).alloc (.cells #[.int .i64 b1, .int .i64 b2, .int .i64 b3, .int .i64 b4, .int .i64 b5, .int .i64 b6, .int .i64 b7] 36)) := ((Nd.refl w).alloc _).alloc _
  have u : Blk ((w.alloc (.cells #[.int .i64 a1, .int .i64 a2, .int .i64 a3, .int .i64 a4, .int .i64 a5, .int .i64 a6, .int .i64 a7] 36)).alloc (.cells #[.int .i64 b1, .int .i64 b2, .int .i64 b3, .int .i64 b4, .int .i64 b5, .int .i64 b6, .int .i64 b7] 36)) w.heap.size 36 #[.int .i64 a1, .int .i64 a2, .int .i64 a3, .int .i64 a4, .int .i64 a5, .int .i64 a6, .int .i64 a7] := (Blk.last w _ _ rfl).alloc _
  have v : Blk ((w.alloc (.cells #[.int .i64 a1, .int .i64 a2, .int .i64 a3, .int .i64 a4, .int .i64 a5, .int .i64 a6, .int .i64 a7] 36)).alloc (.cells #[.int .i64 b1, .int .i64 b2, .int .i64 b3, .int .i64 b4, .int .i64 b5, .int .i64 b6, .int .i64 b7] 36)) (w.heap.size + 1) 36 #[.int .i64 b1, .int .i64 b2, .int .i64 b3, .int .i64 b4, .int .i64 b5, .int .i64 b6, .int .i64 b7] := Blk.last _ _ _ (by simp)
  go_enter Try.func32, Try.ntmps32
  go_upto_region 1 with (fail)
  generalize ((w.alloc (.cells #[.int .i64 a1, .int .i64 a2, .int .i64 a3, .int .i64 a4, .int .i64 a5, .int .i64 a6, .int .i64 a7] 36)).alloc (.cells #[.int .i64 b1, .int .i64 b2, .int .i64 b3, .int .i64 b4, .int .i64 b5, .int .i64 b6, .int .i64 b7] 36)) = wc at i0 u v ⊢
  obtain ⟨gA, hgA⟩ : ∃ gA, w.heap.size = gA := ⟨_, rfl⟩
  obtain ⟨gB, hgB⟩ : ∃ gB, w.heap.size + 1 = gB := ⟨_, rfl⟩
  rw [hgA] at hgB u v ⊢
  rw [hgB] at v ⊢
  have I0 := Lib.hid i0
  clear hgA hgB i0
  have u0 : wc.cell? ⟨gA, 0, none⟩ = some (.int .i64 a1) := (u.cell 0).trans rfl
  have u1 : wc.cell? ⟨gA, 1, none⟩ = some (.int .i64 a2) := (u.cell 1).trans rfl
  have u2 : wc.cell? ⟨gA, 2, none⟩ = some (.int .i64 a3) := (u.cell 2).trans rfl
  have u3 : wc.cell? ⟨gA, 3, none⟩ = some (.int .i64 a4) := (u.cell 3).trans rfl
  have u4 : wc.cell? ⟨gA, 4, none⟩ = some (.int .i64 a5) := (u.cell 4).trans rfl
  have u5 : wc.cell? ⟨gA, 5, none⟩ = some (.int .i64 a6) := (u.cell 5).trans rfl
  have u6 : wc.cell? ⟨gA, 6, none⟩ = some (.int .i64 a7) := (u.cell 6).trans rfl
  have v0 : wc.cell? ⟨gB, 0, none⟩ = some (.int .i64 b1) := (v.cell 0).trans rfl
  have v1 : wc.cell? ⟨gB, 1, none⟩ = some (.int .i64 b2) := (v.cell 1).trans rfl
  have v2 : wc.cell? ⟨gB, 2, none⟩ = some (.int .i64 b3) := (v.cell 2).trans rfl
  have v3 : wc.cell? ⟨gB, 3, none⟩ = some (.int .i64 b4) := (v.cell 3).trans rfl
  have v4 : wc.cell? ⟨gB, 4, none⟩ = some (.int .i64 b5) := (v.cell 4).trans rfl
  have v5 : wc.cell? ⟨gB, 5, none⟩ = some (.int .i64 b6) := (v.cell 5).trans rfl
  have v6 : wc.cell? ⟨gB, 6, none⟩ = some (.int .i64 b7) := (v.cell 6).trans rfl
  clear u v
  have hss : ∀ W, Nd wc W → Nd wc W ∧ W.cell? ⟨gA, 0, none⟩ = some (.int .i64 a1) ∧ W.cell? ⟨gA, 1, none⟩ = some (.int .i64 a2) ∧ W.cell? ⟨gA, 2, none⟩ = some (.int .i64 a3) ∧ W.cell? ⟨gA, 3, none⟩ = some (.int .i64 a4) ∧ W.cell? ⟨gA, 4, none⟩ = some (.int .i64 a5) ∧ W.cell? ⟨gA, 5, none⟩ = some (.int .i64 a6) ∧ W.cell? ⟨gA, 6, none⟩ = some (.int .i64 a7) ∧ W.cell? ⟨gB, 0, none⟩ = some (.int .i64 b1) ∧ W.cell? ⟨gB, 1, none⟩ = some (.int .i64 b2) ∧ W.cell? ⟨gB, 2, none⟩ = some (.int .i64 b3) ∧ W.cell? ⟨gB, 3, none⟩ = some (.int .i64 b4) ∧ W.cell? ⟨gB, 4, none⟩ = some (.int .i64 b5) ∧ W.cell? ⟨gB, 5, none⟩ = some (.int .i64 b6) ∧ W.cell? ⟨gB, 6, none⟩ = some (.int .i64 b7) := fun W h => ⟨h, h.cell u0, h.cell u1, h.cell u2, h.cell u3, h.cell u4, h.cell u5, h.cell u6, h.cell v0, h.cell v1, h.cell v2, h.cell v3, h.cell v4, h.cell v5, h.cell v6⟩
  have HSS := Lib.hid hss
  clear hss
  go_region_held3 (fun W => Nd wc W ∧ W.cell? ⟨gA, 0, none⟩ = some (.int .i64 a1) ∧ W.cell? ⟨gA, 1, none⟩ = some (.int .i64 a2) ∧ W.cell? ⟨gA, 2, none⟩ = some (.int .i64 a3) ∧ W.cell? ⟨gA, 3, none⟩ = some (.int .i64 a4) ∧ W.cell? ⟨gA, 4, none⟩ = some (.int .i64 a5) ∧ W.cell? ⟨gA, 5, none⟩ = some (.int .i64 a6) ∧ W.cell? ⟨gA, 6, none⟩ = some (.int .i64 a7) ∧ W.cell? ⟨gB, 0, none⟩ = some (.int .i64 b1) ∧ W.cell? ⟨gB, 1, none⟩ = some (.int .i64 b2) ∧ W.cell? ⟨gB, 2, none⟩ = some (.int .i64 b3) ∧ W.cell? ⟨gB, 3, none⟩ = some (.int .i64 b4) ∧ W.cell? ⟨gB, 4, none⟩ = some (.int .i64 b5) ∧ W.cell? ⟨gB, 5, none⟩ = some (.int .i64 b6) ∧ W.cell? ⟨gB, 6, none⟩ = some (.int .i64 b7)) ((refine HSS.out _ ?_; repeat (first | assumption | exact Nd.refl wc | refine Nd.drew ?_ | refine Nd.alloc ?_ _))) (first
    | (go_at_call 43; refine (K1.out _).mono ?_; rintro e w1 ⟨rfl, b1⟩; have i1 : Nd wc w1 := Nd.step (by repeat (first | assumption | exact Nd.refl wc | refine Nd.drew ?_ | refine Nd.alloc ?_ _)) b1)
    | (go_at_call 44; refine (K2.out _).mono ?_; rintro e w1 ⟨rfl, rfl⟩)
    | (go_at_call 42; refine (K3.out _ _ (Blk.last _ _ _ rfl)).mono ?_; rintro e w1 ⟨rfl, rfl⟩))
  all_goals
    go_wp2_with fail
    go_ret
    exact ⟨rfl, I0.out.step (by repeat (first | assumption | exact Nd.refl wc | refine Nd.drew ?_ | refine Nd.alloc ?_ _))⟩
end Go.Proofs.Ytghmldfllieonaa
