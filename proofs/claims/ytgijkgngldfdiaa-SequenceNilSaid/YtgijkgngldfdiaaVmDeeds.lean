/- The machine's deeds: an array of functions. Helper. -/
import Derived.Test.YtgijkgngldfdiaaVmSmall
import Derived.Laws.Rows
import Derived.Laws.Tables
namespace Go.Proofs.Ytgijkgngldfdiaa
open Go.RowKit
set_option linter.unusedVariables false
set_option linter.unusedSimpArgs false
def DEEDS : Array Value := #[.nilFunc, .func (.func (deed 1)) #[] #[], .func (.func (deed 2)) #[] #[], .func (.func (deed 3)) #[] #[], .func (.func (deed 4)) #[] #[], .func (.func (deed 5)) #[] #[], .func (.func (deed 6)) #[] #[], .func (.func (deed 7)) #[] #[], .func (.func (deed 8)) #[] #[], .func (.func (deed 9)) #[] #[],
  .func (.func (deed 10)) #[] #[], .func (.func (deed 11)) #[] #[], .func (.func (deed 12)) #[] #[], .func (.func (deed 13)) #[] #[], .func (.func (deed 14)) #[] #[], .func (.func (deed 15)) #[] #[], .func (.func (deed 16)) #[] #[], .func (.func (deed 17)) #[] #[]]
theorem DEEDS_get (op : Nat) (h1 : 1 ≤ op) (h2 : op ≤ 17) : DEEDS[op]? = some (.func (.func (deed op)) #[] #[]) := by
  have hc : op = 1 ∨ op = 2 ∨ op = 3 ∨ op = 4 ∨ op = 5 ∨ op = 6 ∨ op = 7 ∨ op = 8 ∨ op = 9 ∨ op = 10 ∨ op = 11 ∨ op = 12 ∨ op = 13 ∨ op = 14 ∨ op = 15 ∨ op = 16 ∨ op = 17 := by omega
  rcases hc with rfl | rfl | rfl | rfl | rfl | rfl | rfl | rfl | rfl | rfl | rfl | rfl | rfl | rfl | rfl | rfl | rfl <;> rfl
theorem DEEDS_one : DEEDS.all (·.oneCell') = true := by simp [DEEDS, Value.oneCell']
theorem DEEDS_size : (Try.prog.info? 134).map (·.size) = some DEEDS.size := by kernel_rfl
set_option maxRecDepth 100000 in
set_option maxHeartbeats 800000 in
theorem deeds_any (w : World) : Calls Try.prog 67 #[] w fun e w' => e = .returned (.agg DEEDS) ∧ Below w.heap.size w w' := by
  have HU := Lib.hid Try.underlying134
  have HS := Lib.hid DEEDS_size
  have hb : (w.alloc (.cells DEEDS 134)).heap[w.heap.size]? = some (.cells DEEDS 134 (0, 0)) := heap_last w _ rfl
  have HB := Lib.hid hb
  clear hb
  go_enter Try.func67, Try.ntmps67
  go_wp2_with (refine wpList_store_row rfl 134 _ _ rfl w.heap.size DEEDS rfl rfl 134 (Array.replicate 18 .nilFunc) (heap_last w _ rfl) HS.out (by rfl) DEEDS_one ?_; rw [World.setRow_alloc_new])
  refine bodyPost_ret (results_cell_row rfl _ _ w.heap.size 134 DEEDS (0, 0) (.array 18 133) rfl HB.out HU.out rfl HS.out) rfl ⟨rfl, (Below.refl _ _).alloc (Nat.le_refl _) _⟩
theorem DEEDS_18 : DEEDS.size = 18 := by rfl
attribute [irreducible] DEEDS
end Go.Proofs.Ytgijkgngldfdiaa
