/- Least, Most. Helper. -/
import Derived.Test.YtghmldfllieonaaHeapOps
namespace Go.Proofs.Ytghmldfllieonaa
open Go.RowKit
set_option linter.unusedVariables false
set_option linter.unusedSimpArgs false
set_option maxRecDepth 100000
set_option maxHeartbeats 1600000
/-- What a call that answers an item and whether it is there answers. -/
def itv (e : It) (b : Bool) : Value := .tuple #[.agg e.c.toArray, .bool b]
section
variable (w : World) (gB S : Nat) (v : Value) (l : List It) (f : Int → Int → Option Nat) (blk : Option Nat)
theorem least_none (h : HpS w gB S v l f blk) (hl : l = []) : Calls Try.prog 16 #[.pointer (some ⟨gB, 0, none⟩)] w fun e w' => e = .returned (itv It.zero false) ∧ Below w.heap.size w w' := by
  have KN := Lib.hid (fun W (hW : HpS W gB S v l f blk) => len_any W gB S v l f blk hW)
  have H0 := Lib.hid (h.new ((Below.refl _ w).alloc (Nat.le_refl _) (.cells #[.int .i64 0, .int .i64 0, .int .i64 0, .int .i64 0, .int .i64 0, .int .i64 0, .int .i64 0] 36)))
  subst hl
  clear h
  go_enter Try.func16, Try.ntmps16
  go_wp2_with fail
  refine (KN.out _ H0.out).mono ?_
  rintro e w1 ⟨rfl, rfl⟩
  go_wp2_with fail
  obtain ⟨d, hd⟩ := item_desc
  refine bodyPost_ret (results_rowB rfl _ _ w.heap.size 36 _ (0, 0) ⟨d, rfl⟩ rfl (heap_last w _ rfl) hd item_size) rfl ⟨rfl, (Below.refl _ w).alloc (Nat.le_refl _) _⟩
theorem leastI_any (h : HpS w gB S v l f blk) (hl : 0 < l.length) (hm : l.length ≤ 100000) : Calls Try.prog 16 #[.pointer (some ⟨gB, 0, none⟩)] w fun e w' => e = .returned (itv (g l 0) true) ∧ Below w.heap.size w w' := by
  have KN := Lib.hid (fun W (hW : HpS W gB S v l f blk) => len_any W gB S v l f blk hW)
  have H0 := Lib.hid (h.new ((Below.refl _ w).alloc (Nat.le_refl _) (.cells #[.int .i64 0, .int .i64 0, .int .i64 0, .int .i64 0, .int .i64 0, .int .i64 0, .int .i64 0] 36)))
  obtain ⟨hxl, A, c, rfl, hnc, hcm, h3 | ⟨b, off, cur, rfl, rfl, hg, hfit, ht⟩⟩ := h.hm.ow
  · have := h3.1; omega
  have c0 : w.cell? ⟨gB, 0, none⟩ = some (.slice (some ⟨b, off, none⟩) l.length c) := (h.hm.bk.cell 0).trans rfl
  have it := fun j hj => (h.hm.ow.item hl j hj).1
  have x0 : w.cell? ⟨b, off, none⟩ = some (.int .i64 (g l 0).k.T) := it 0 (by omega)
  have x1 : w.cell? ⟨b, off + 1, none⟩ = some (.int .i64 (g l 0).k.O) := it 1 (by omega)
  have x2 : w.cell? ⟨b, off + 2, none⟩ = some (.int .i64 (g l 0).k.S) := it 2 (by omega)
  have x3 : w.cell? ⟨b, off + 3, none⟩ = some (.int .i64 (g l 0).p) := it 3 (by omega)
  have x4 : w.cell? ⟨b, off + 4, none⟩ = some (.int .i64 (g l 0).q) := it 4 (by omega)
  have x5 : w.cell? ⟨b, off + 5, none⟩ = some (.int .i64 (g l 0).d) := it 5 (by omega)
  have x6 : w.cell? ⟨b, off + 6, none⟩ = some (.int .i64 (g l 0).n) := it 6 (by omega)
  have hb := hg.lt
  have hlt := h.hm.bk.lt
  have i0 : (0 : Int) < (l.length : Int) := by omega
  have i1 : ¬ ((l.length : Int) = 0) := by omega
  have i2 : ¬ (l.length = 0) := by omega
  have HLN := Lib.hid hl
  have i3 : ¬ l = [] := by rintro rfl; simp at hl
  clear h hxl hnc hcm hfit ht it hg
  go_enter Try.func16, Try.ntmps16
  go_wp2_with fail
  refine (KN.out _ H0.out).mono ?_
  rintro e w1 ⟨rfl, rfl⟩
  go_wp2_with fail
  obtain ⟨d, hd⟩ := item_desc
  refine bodyPost_ret (results_rowB rfl _ _ w.heap.size 36 _ (0, 0) ⟨d, rfl⟩ rfl (heap_last w _ rfl) hd item_size) rfl ⟨rfl, (Below.refl _ w).alloc (Nat.le_refl _) _⟩
end
end Go.Proofs.Ytghmldfllieonaa
