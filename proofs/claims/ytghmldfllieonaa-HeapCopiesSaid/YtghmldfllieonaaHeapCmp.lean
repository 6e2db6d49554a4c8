/- Items compared: ours, the document's; an item's name. Helper. -/
import Derived.Test.YtghmldfllieonaaHeapMem
namespace Go.Proofs.Ytghmldfllieonaa
open Go.RowKit
set_option linter.unusedVariables false
set_option linter.unusedSimpArgs false
theorem or2_any (g : Nat) (x y : Int) (w : World) (h : Blk w g 3 #[.int .i64 x, .int .i64 y]) :
    Calls Try.prog 42 #[.slice (some ⟨g, 0, none⟩) 2 2] w fun e w' => e = .returned (.int .i64 (or2 x y)) ∧ w' = w := by
  have h0 : w.cell? ⟨g, 0, none⟩ = some (.int .i64 x) := (h.cell 0).trans rfl
  have h1 : w.cell? ⟨g, 1, none⟩ = some (.int .i64 y) := (h.cell 1).trans rfl
  clear h
  obtain ⟨R, hR⟩ : ∃ R, R = or2 x y := ⟨_, rfl⟩
  rw [← hR]
  have HR := Lib.hid hR
  clear hR
  go_enter Try.func42, Try.ntmps42
  go_wp2
  go_loopw [8] (fun i wr => wr = w ∧ ∃ k : Nat, k ≤ 2 ∧ i = .int .i64 k ∧ (0 < k → x = 0) ∧ (1 < k → y = 0)) (fun i _ => 2 - (intOf i).toNat)
  case atStart => exact ⟨rfl, 0, by omega, rfl, by omega, by omega⟩
  case round =>
    obtain ⟨rfl, k, hk, rfl, z0, z1⟩ := hrel
    have hcase : k = 0 ∨ k = 1 ∨ k = 2 := by omega
    rcases hcase with rfl | rfl | rfl
    · by_cases hx : x = 0
      · subst hx
        go_wp2
        go_roundw
        case rel => refine ⟨?_, 1, ?_, ?_, ?_, ?_⟩ <;> first | trivial | rfl | omega | simp
        case measure => simp [intOf]
      · go_wp2
        go_ret
        exact ⟨ret_int (by rw [HR.out]; simp [or2, *]), rfl⟩
    · have hx := z0 (by omega)
      subst hx
      by_cases hy : y = 0
      · subst hy
        go_wp2
        go_roundw
        case rel => refine ⟨?_, 2, ?_, ?_, ?_, ?_⟩ <;> first | trivial | rfl | omega | simp
        case measure => simp [intOf]
      · skip
        go_wp2
        go_ret
        exact ⟨ret_int (by rw [HR.out]; simp [or2, *]), rfl⟩
    · have hx := z0 (by omega)
      subst hx
      have hy := z1 (by omega)
      subst hy
      go_wp2
      go_ret
      exact ⟨ret_int (by rw [HR.out]; simp [or2, *]), rfl⟩
set_option maxHeartbeats 1600000
set_option maxRecDepth 100000
theorem byKeyI_any (a b : It) (w : World) : Calls Try.prog 32 #[.agg a.c.toArray, .agg b.c.toArray] w fun e w' => e = .returned (.int .i64 (a.cmp b)) ∧ Below w.heap.size w w' := by
  obtain ⟨⟨a1, a2, a3⟩, a4, a5, a6, a7⟩ := a
  obtain ⟨⟨b1, b2, b3⟩, b4, b5, b6, b7⟩ := b
  obtain ⟨R, hR⟩ : ∃ R, Ky.cmp ⟨a1, a2, a3⟩ ⟨b1, b2, b3⟩ = R := ⟨_, rfl⟩
  obtain ⟨R2, hR2⟩ : ∃ R2, c3 a7 b7 = R2 := ⟨_, rfl⟩
  have k1 := fun w => byKey_any ⟨a1, a2, a3⟩ ⟨b1, b2, b3⟩ a4 a5 a6 b4 b5 b6 w
  have k2 := fun w => cmp_any a7 b7 w
  rw [hR] at k1
  rw [hR2] at k2
  have k3 := fun g w h => or2_any g R R2 w h
  show Calls Try.prog 32 #[.agg #[.int .i64 a1, .int .i64 a2, .int .i64 a3, .int .i64 a4, .int .i64 a5, .int .i64 a6, .int .i64 a7], .agg #[.int .i64 b1, .int .i64 b2, .int .i64 b3, .int .i64 b4, .int .i64 b5, .int .i64 b6, .int .i64 b7]] w fun e w' => e = .returned (.int .i64 (or2 (Ky.cmp ⟨a1, a2, a3⟩ ⟨b1, b2, b3⟩) (c3 a7 b7))) ∧ Below w.heap.size w w'
  rw [hR, hR2]
  dsimp only at k1
  have K1 := Lib.hid k1
  have K2 := Lib.hid k2
  have K3 := Lib.hid k3
  clear k1 k2 k3 hR hR2
  have i0 : Nw w ((w.alloc (.cells #[.int .i64 a1, .int .i64 a2, .int .i64 a3, .int .i64 a4, .int .i64 a5, .int .i64 a6, .int .i64 a7] 36)).alloc (.cells #[.int .i64 b1, .int .i64 b2, .int .i64 b3, .int .i64 b4, .int .i64 b5, .int .i64 b6, .int .i64 b7] 36)) := ((Nw.refl w).alloc _).alloc _
  have u : Blk ((w.alloc (.cells #[.int .i64 a1, .int .i64 a2, .int .i64 a3, .int .i64 a4, .int .i64 a5, .int .i64 a6, .int .i64 a7] 36)).alloc (.cells #[.int .i64 b1, .int .i64 b2, .int .i64 b3, .int .i64 b4, .int .i64 b5, .int .i64 b6, .int .i64 b7] 36)) w.heap.size 36 #[.int .i64 a1, .int .i64 a2, .int .i64 a3, .int .i64 a4, .int .i64 a5, .int .i64 a6, .int .i64 a7] := (Blk.last w _ _ rfl).alloc _
  have v : Blk ((w.alloc (.cells #[.int .i64 a1, .int .i64 a2, .int .i64 a3, .int .i64 a4, .int .i64 a5, .int .i64 a6, .int .i64 a7] 36)).alloc (.cells #[.int .i64 b1, .int .i64 b2, .int .i64 b3, .int .i64 b4, .int .i64 b5, .int .i64 b6, .int .i64 b7] 36)) (w.heap.size + 1) 36 #[.int .i64 b1, .int .i64 b2, .int .i64 b3, .int .i64 b4, .int .i64 b5, .int .i64 b6, .int .i64 b7] := Blk.last _ _ _ (by simp)
  go_enter Try.func32, Try.ntmps32
  go_upto_region 1 with (fail)
  generalize ((w.alloc (.cells #[.int .i64 a1, .int .i64 a2, .int .i64 a3, .int .i64 a4, .int .i64 a5, .int .i64 a6, .int .i64 a7] 36)).alloc (.cells #[.int .i64 b1, .int .i64 b2, .int .i64 b3, .int .i64 b4, .int .i64 b5, .int .i64 b6, .int .i64 b7] 36)) = wc at i0 u v ⊢
  obtain ⟨gA, hgA⟩ : ∃ gA, w.heap.size = gA := ⟨_, rfl⟩
  obtain ⟨gB, hgB⟩ : ∃ gB, w.heap.size + 1 = gB := ⟨_, rfl⟩
  rw [hgA] at hgB u v ⊢
  rw [hgB] at v ⊢
  have I0 := Lib.hid i0
  clear hgA hgB i0
  have u0 : wc.cell? ⟨gA, 0, none⟩ = some (.int .i64 a1) := (u.cell 0).trans rfl
  have u1 : wc.cell? ⟨gA, 1, none⟩ = some (.int .i64 a2) := (u.cell 1).trans rfl
  have u2 : wc.cell? ⟨gA, 2, none⟩ = some (.int .i64 a3) := (u.cell 2).trans rfl
  have u3 : wc.cell? ⟨gA, 3, none⟩ = some (.int .i64 a4) := (u.cell 3).trans rfl
  have u4 : wc.cell? ⟨gA, 4, none⟩ = some (.int .i64 a5) := (u.cell 4).trans rfl
  have u5 : wc.cell? ⟨gA, 5, none⟩ = some (.int .i64 a6) := (u.cell 5).trans rfl
  have u6 : wc.cell? ⟨gA, 6, none⟩ = some (.int .i64 a7) := (u.cell 6).trans rfl
  have v0 : wc.cell? ⟨gB, 0, none⟩ = some (.int .i64 b1) := (v.cell 0).trans rfl
  have v1 : wc.cell? ⟨gB, 1, none⟩ = some (.int .i64 b2) := (v.cell 1).trans rfl
  have v2 : wc.cell? ⟨gB, 2, none⟩ = some (.int .i64 b3) := (v.cell 2).trans rfl
  have v3 : wc.cell? ⟨gB, 3, none⟩ = some (.int .i64 b4) := (v.cell 3).trans rfl
  have v4 : wc.cell? ⟨gB, 4, none⟩ = some (.int .i64 b5) := (v.cell 4).trans rfl
  have v5 : wc.cell? ⟨gB, 5, none⟩ = some (.int .i64 b6) := (v.cell 5).trans rfl
  have v6 : wc.cell? ⟨gB, 6, none⟩ = some (.int .i64 b7) := (v.cell 6).trans rfl
  clear u v
  have hss : ∀ W, Nw wc W → Nw wc W ∧ W.cell? ⟨gA, 0, none⟩ = some (.int .i64 a1) ∧ W.cell? ⟨gA, 1, none⟩ = some (.int .i64 a2) ∧ W.cell? ⟨gA, 2, none⟩ = some (.int .i64 a3) ∧ W.cell? ⟨gA, 3, none⟩ = some (.int .i64 a4) ∧ W.cell? ⟨gA, 4, none⟩ = some (.int .i64 a5) ∧ W.cell? ⟨gA, 5, none⟩ = some (.int .i64 a6) ∧ W.cell? ⟨gA, 6, none⟩ = some (.int .i64 a7) ∧ W.cell? ⟨gB, 0, none⟩ = some (.int .i64 b1) ∧ W.cell? ⟨gB, 1, none⟩ = some (.int .i64 b2) ∧ W.cell? ⟨gB, 2, none⟩ = some (.int .i64 b3) ∧ W.cell? ⟨gB, 3, none⟩ = some (.int .i64 b4) ∧ W.cell? ⟨gB, 4, none⟩ = some (.int .i64 b5) ∧ W.cell? ⟨gB, 5, none⟩ = some (.int .i64 b6) ∧ W.cell? ⟨gB, 6, none⟩ = some (.int .i64 b7) := fun W h => ⟨h, h.cell u0, h.cell u1, h.cell u2, h.cell u3, h.cell u4, h.cell u5, h.cell u6, h.cell v0, h.cell v1, h.cell v2, h.cell v3, h.cell v4, h.cell v5, h.cell v6⟩
  have HSS := Lib.hid hss
  clear hss
  go_region_held3 (fun W => Nw wc W ∧ W.cell? ⟨gA, 0, none⟩ = some (.int .i64 a1) ∧ W.cell? ⟨gA, 1, none⟩ = some (.int .i64 a2) ∧ W.cell? ⟨gA, 2, none⟩ = some (.int .i64 a3) ∧ W.cell? ⟨gA, 3, none⟩ = some (.int .i64 a4) ∧ W.cell? ⟨gA, 4, none⟩ = some (.int .i64 a5) ∧ W.cell? ⟨gA, 5, none⟩ = some (.int .i64 a6) ∧ W.cell? ⟨gA, 6, none⟩ = some (.int .i64 a7) ∧ W.cell? ⟨gB, 0, none⟩ = some (.int .i64 b1) ∧ W.cell? ⟨gB, 1, none⟩ = some (.int .i64 b2) ∧ W.cell? ⟨gB, 2, none⟩ = some (.int .i64 b3) ∧ W.cell? ⟨gB, 3, none⟩ = some (.int .i64 b4) ∧ W.cell? ⟨gB, 4, none⟩ = some (.int .i64 b5) ∧ W.cell? ⟨gB, 5, none⟩ = some (.int .i64 b6) ∧ W.cell? ⟨gB, 6, none⟩ = some (.int .i64 b7)) ((refine HSS.out _ ?_; repeat (first | assumption | exact Nw.refl wc | refine Nw.drew ?_ | refine Nw.alloc ?_ _))) (first
    | (go_at_call 43; refine (K1.out _).mono ?_; rintro e w1 ⟨rfl, b1⟩; have i1 : Nw wc w1 := Nw.step (by repeat (first | assumption | exact Nw.refl wc | refine Nw.drew ?_ | refine Nw.alloc ?_ _)) b1)
    | (go_at_call 44; refine (K2.out _).mono ?_; rintro e w1 ⟨rfl, rfl⟩)
    | (go_at_call 42; refine (K3.out _ _ (Blk.last _ _ _ rfl)).mono ?_; rintro e w1 ⟨rfl, rfl⟩))
  all_goals
    go_wp2_with fail
    go_ret
    exact ⟨rfl, I0.out.step (by repeat (first | assumption | exact Nw.refl wc | refine Nw.drew ?_ | refine Nw.alloc ?_ _))⟩
theorem results_rowA {P : Program} {fn : Func} {p : Tmp} {ty : TypeId} (h : fn.results = #[.cell p ty]) (tmps : Array Value) (w : World) (g : Nat) (t : TypeId) (cs : Array Value) (fr : Nat × Nat) {d : TypeDesc} (hst : ∃ x, d = .struct x)
    (hp : tmps.getD p undef = .pointer (some ⟨g, 0, none⟩)) (hg : w.heap[g]? = some (.cells cs t fr))
    (hu : P.underlying ty = some d) (hi : (P.info? ty).map (·.size) = some cs.size) :
    (results fn tmps).run P w = .ok (.agg cs) w := by
  obtain ⟨x, rfl⟩ := hst
  exact results_cell_row h tmps w g t cs fr _ hp hg hu rfl hi
theorem results_rowB {P : Program} {fn : Func} {p u : Tmp} {ty : TypeId} (h : fn.results = #[.cell p ty, .tmp u]) (tmps : Array Value) (w : World) (g : Nat) (t : TypeId) (cs : Array Value) (fr : Nat × Nat) {d : TypeDesc} (hst : ∃ x, d = .struct x)
    (hp : tmps.getD p undef = .pointer (some ⟨g, 0, none⟩)) (hg : w.heap[g]? = some (.cells cs t fr))
    (hu : P.underlying ty = some d) (hi : (P.info? ty).map (·.size) = some cs.size) :
    (results fn tmps).run P w = .ok (.tuple #[.agg cs, tmps.getD u undef]) w := by
  obtain ⟨x, rfl⟩ := hst
  have hp' : tmps[p]?.getD undef = .pointer (some ⟨g, 0, none⟩) := by simpa using hp
  simp [results, h, hp', asAddr, run_loadVar_row w g t ty cs fr _ hg hu rfl hi]
theorem item_size : (Try.prog.info? 36).map (·.size) = some 7 := by kernel_rfl
theorem item_desc : ∃ fs, Try.prog.underlying 36 = some (.struct fs) := ⟨_, Try.underlying36⟩
theorem name_size : (Try.prog.info? 62).map (·.size) = some 2 := by kernel_rfl
theorem name_desc : ∃ fs, Try.prog.underlying 62 = some (.struct fs) := ⟨_, Try.underlying62⟩
theorem of_any (e : It) (w : World) : Calls Try.prog 40 #[.agg e.c.toArray] w fun r w' => r = .returned (.agg #[.int .i64 e.k.O, .int .i64 e.n]) ∧ Below w.heap.size w w' := by
  obtain ⟨⟨a1, a2, a3⟩, a4, a5, a6, a7⟩ := e
  show Calls Try.prog 40 #[.agg #[.int .i64 a1, .int .i64 a2, .int .i64 a3, .int .i64 a4, .int .i64 a5, .int .i64 a6, .int .i64 a7]] w fun r w' => r = .returned (.agg #[.int .i64 a2, .int .i64 a7]) ∧ Below w.heap.size w w'
  go_enter Try.func40, Try.ntmps40
  go_wp2_with fail
  obtain ⟨d, hd⟩ := name_desc
  refine bodyPost_ret (results_rowA rfl _ _ (w.heap.size + 1) 62 _ (0, 0) ⟨d, rfl⟩ rfl (heap_last _ _ (by simp)) hd name_size) rfl ⟨rfl, ((Below.refl _ w).alloc (Nat.le_refl _) _).alloc (by simp) _⟩
theorem refLessI_any (a b : It) (w : World) : Calls Try.prog 14 #[.agg a.c.toArray, .agg b.c.toArray] w fun e w' => e = .returned (.bool (a.less b)) ∧ Below w.heap.size w w' := by
  obtain ⟨⟨a1, a2, a3⟩, a4, a5, a6, a7⟩ := a
  obtain ⟨⟨b1, b2, b3⟩, b4, b5, b6, b7⟩ := b
  show Calls Try.prog 14 #[.agg #[.int .i64 a1, .int .i64 a2, .int .i64 a3, .int .i64 a4, .int .i64 a5, .int .i64 a6, .int .i64 a7], .agg #[.int .i64 b1, .int .i64 b2, .int .i64 b3, .int .i64 b4, .int .i64 b5, .int .i64 b6, .int .i64 b7]] w fun e w' => e = .returned (.bool (if (⟨a1, a2, a3⟩ : Ky) = ⟨b1, b2, b3⟩ then decide (a7 < b7) else Ky.less ⟨a1, a2, a3⟩ ⟨b1, b2, b3⟩)) ∧ Below w.heap.size w w'
  have i0 : Nw w ((w.alloc (.cells #[.int .i64 a1, .int .i64 a2, .int .i64 a3, .int .i64 a4, .int .i64 a5, .int .i64 a6, .int .i64 a7] 36)).alloc (.cells #[.int .i64 b1, .int .i64 b2, .int .i64 b3, .int .i64 b4, .int .i64 b5, .int .i64 b6, .int .i64 b7] 36)) := ((Nw.refl w).alloc _).alloc _
  have I0 := Lib.hid i0
  clear i0
  by_cases h : (⟨a1, a2, a3⟩ : Ky) = ⟨b1, b2, b3⟩
  · rw [if_pos h]
    injection h with h1 h2 h3
    subst h1 h2 h3
    go_enter Try.func14, Try.ntmps14
    go_wp2_with fail
    go_ret
    exact ⟨rfl, I0.out⟩
  · rw [if_neg h]
    have k := fun w => refLess_any ⟨a1, a2, a3⟩ ⟨b1, b2, b3⟩ w
    obtain ⟨R, hR⟩ : ∃ R, Ky.less ⟨a1, a2, a3⟩ ⟨b1, b2, b3⟩ = R := ⟨_, rfl⟩
    rw [hR] at k ⊢
    dsimp only at k
    have K := Lib.hid k
    have hne : ¬ (a1 = b1 ∧ a2 = b2 ∧ a3 = b3) := by rintro ⟨rfl, rfl, rfl⟩; exact h rfl
    clear k hR h
    go_enter Try.func14, Try.ntmps14
    go_wp2_with fail
    all_goals
      subst_vars
      refine (K.out _).mono ?_
      rintro e w1 ⟨rfl, b1⟩
      have N1 := Lib.hid (I0.out.step b1)
      clear b1
      go_wp2_with fail
      go_ret
      exact ⟨rfl, N1.out⟩
end Go.Proofs.Ytghmldfllieonaa
