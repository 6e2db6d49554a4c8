/- The document's heap: Least, Most, Take. Helper. -/
import Derived.Test.YtghmldfllieonaaHeapRefDrop
import Derived.Test.YtghmldfllieonaaHeapTake
namespace Go.Proofs.Ytghmldfllieonaa
open Go.RowKit
set_option linter.unusedVariables false
set_option linter.unusedSimpArgs false
set_option maxRecDepth 100000
set_option maxHeartbeats 1600000
section
variable (w : World) (gR : Nat) (L : List It) (blk : Option Nat)
theorem refLeast_none (h : RefH w gR L blk) (hl : L = []) : Calls Try.prog 34 #[.pointer (some ⟨gR, 0, none⟩)] w fun e w' => e = .returned (itv It.zero false) ∧ Below w.heap.size w w' := by
  subst hl
  obtain ⟨A, c, hb, ho⟩ := h
  have c0 : w.cell? ⟨gR, 0, none⟩ = some (.slice A 0 c) := (hb.cell 0).trans rfl
  have hlt := hb.lt
  clear hb ho
  go_enter Try.func34, Try.ntmps34
  go_wp2_with fail
  obtain ⟨d, hd⟩ := item_desc
  refine bodyPost_ret (results_rowB rfl _ _ w.heap.size 36 _ (0, 0) ⟨d, rfl⟩ rfl (heap_last w _ rfl) hd item_size) rfl ⟨rfl, (Below.refl _ w).alloc (Nat.le_refl _) _⟩
theorem refMost_none (h : RefH w gR L blk) (hl : L = []) : Calls Try.prog 35 #[.pointer (some ⟨gR, 0, none⟩)] w fun e w' => e = .returned (itv It.zero false) ∧ Below w.heap.size w w' := by
  subst hl
  obtain ⟨A, c, hb, ho⟩ := h
  have c0 : w.cell? ⟨gR, 0, none⟩ = some (.slice A 0 c) := (hb.cell 0).trans rfl
  have hlt := hb.lt
  clear hb ho
  go_enter Try.func35, Try.ntmps35
  go_wp2_with fail
  obtain ⟨d, hd⟩ := item_desc
  refine bodyPost_ret (results_rowB rfl _ _ w.heap.size 36 _ (0, 0) ⟨d, rfl⟩ rfl (heap_last w _ rfl) hd item_size) rfl ⟨rfl, (Below.refl _ w).alloc (Nat.le_refl _) _⟩
theorem refLeastI_any (h : RefH w gR L blk) (hl : 0 < L.length) (hm : L.length ≤ 100000) : Calls Try.prog 34 #[.pointer (some ⟨gR, 0, none⟩)] w fun e w' => e = .returned (itv (g L 0) true) ∧ Below w.heap.size w w' := by
  obtain ⟨b, off, c, hb, hnc, hcm, hbk, hbl, ho⟩ := h.at hl
  have c0 : w.cell? ⟨gR, 0, none⟩ = some (.slice (some ⟨b, off, none⟩) L.length c) := (hb.cell 0).trans rfl
  have it := fun j hj => (ho.item hl j hj).1
  have x0 : w.cell? ⟨b, off, none⟩ = some (.int .i64 (g L 0).k.T) := it 0 (by omega)
  have x1 : w.cell? ⟨b, off + 1, none⟩ = some (.int .i64 (g L 0).k.O) := it 1 (by omega)
  have x2 : w.cell? ⟨b, off + 2, none⟩ = some (.int .i64 (g L 0).k.S) := it 2 (by omega)
  have x3 : w.cell? ⟨b, off + 3, none⟩ = some (.int .i64 (g L 0).p) := it 3 (by omega)
  have x4 : w.cell? ⟨b, off + 4, none⟩ = some (.int .i64 (g L 0).q) := it 4 (by omega)
  have x5 : w.cell? ⟨b, off + 5, none⟩ = some (.int .i64 (g L 0).d) := it 5 (by omega)
  have x6 : w.cell? ⟨b, off + 6, none⟩ = some (.int .i64 (g L 0).n) := it 6 (by omega)
  have hlt := hb.lt
  have i0 : (0 : Int) < (L.length : Int) := by omega
  have i1 : ¬ ((L.length : Int) = 0) := by omega
  have i2 : ¬ (L.length = 0) := by omega
  have i3 : ¬ L = [] := by rintro rfl; simp at hl
  clear h hb ho it hnc hcm hbk hl
  go_enter Try.func34, Try.ntmps34
  go_wp2_with fail
  obtain ⟨d, hd⟩ := item_desc
  refine bodyPost_ret (results_rowB rfl _ _ w.heap.size 36 _ (0, 0) ⟨d, rfl⟩ rfl (heap_last w _ rfl) hd item_size) rfl ⟨rfl, (Below.refl _ w).alloc (Nat.le_refl _) _⟩
theorem refMost_any (h : RefH w gR L blk) (k : Nat) (hl : L.length = k + 1) (hm : L.length ≤ 100000) : Calls Try.prog 35 #[.pointer (some ⟨gR, 0, none⟩)] w fun e w' => e = .returned (itv (g L k) true) ∧ Below w.heap.size w w' := by
  obtain ⟨b, off, c, hb, hnc, hcm, hbk, hbl, ho⟩ := h.at (k := k) (by omega)
  rw [hl] at hb ho hm
  have c0 : w.cell? ⟨gR, 0, none⟩ = some (.slice (some ⟨b, off, none⟩) (k + 1) c) := (hb.cell 0).trans rfl
  have it := fun j hj => (ho.item (i := k) (by omega) j hj).1
  obtain ⟨x, hx⟩ : ∃ x, g L k = x := ⟨_, rfl⟩
  rw [hx] at it ⊢
  have x0 : w.cell? ⟨b, off + k * 7, none⟩ = some (.int .i64 x.k.T) := it 0 (by omega)
  have x1 : w.cell? ⟨b, off + k * 7 + 1, none⟩ = some (.int .i64 x.k.O) := it 1 (by omega)
  have x2 : w.cell? ⟨b, off + k * 7 + 2, none⟩ = some (.int .i64 x.k.S) := it 2 (by omega)
  have x3 : w.cell? ⟨b, off + k * 7 + 3, none⟩ = some (.int .i64 x.p) := it 3 (by omega)
  have x4 : w.cell? ⟨b, off + k * 7 + 4, none⟩ = some (.int .i64 x.q) := it 4 (by omega)
  have x5 : w.cell? ⟨b, off + k * 7 + 5, none⟩ = some (.int .i64 x.d) := it 5 (by omega)
  have x6 : w.cell? ⟨b, off + k * 7 + 6, none⟩ = some (.int .i64 x.n) := it 6 (by omega)
  have hlt := hb.lt
  have hkb : k ≤ 100000 := by omega
  have i1 : ¬ ((k : Int) + 1 = 0) := by omega
  have kw : IntKind.i64.wrap ((k : Int) + 1 - 1) = (k : Int) := by rw [show (k : Int) + 1 - 1 = (k : Int) by omega]; exact IntWalk.i64_in (n := (k : Int)) (by constructor <;> omega)
  have kw2 : IntKind.i64.wrap (k : Int) = (k : Int) := IntWalk.i64_in (n := (k : Int)) (by constructor <;> omega)
  have ik : (k : Int) < (k : Int) + 1 := by omega
  obtain ⟨gQ, hgQ⟩ : ∃ gQ, w.heap.size = gQ := ⟨_, rfl⟩
  have HG := Lib.hid hgQ
  clear h hb ho it hnc hcm hbk hl hx hgQ hm
  go_enter Try.func35, Try.ntmps35
  go_wp2_with fail
  go_region
  all_goals
    go_wp2_with fail
    obtain ⟨d, hd⟩ := item_desc
    refine bodyPost_ret (results_rowB rfl _ _ w.heap.size 36 _ (0, 0) ⟨d, rfl⟩ rfl (heap_last w _ rfl) hd item_size) rfl ⟨rfl, ?_⟩
    exact ((Below.refl _ w).alloc (Nat.le_refl _) _).drew
end
end Go.Proofs.Ytghmldfllieonaa
