/- More small words: worlds behind many draws, results of two numbers. -/
import Derived.Test.YtalcafaibmbgjaaDoorMem
namespace Go.Proofs.YtalcafaibmbgjaaDoor
open Go.RowKit
theorem Below.many {B : Nat} {a w : World} (h : Below B a w) (n : Nat) : Below B a (w.drewN n) := h.trans ⟨rfl, rfl, rfl, Nat.le_refl _, fun _ _ => rfl⟩
theorem Chg.many {M : Nat → Prop} {a w : World} (h : Chg M a w) (n : Nat) : Chg M a (w.drewN n) := ⟨h.os, h.tape, h.output, h.size, h.block⟩
theorem ret_pair {k l : IntKind} {a b c d : Int} (h : a = b) (h2 : c = d) : Ending.returned (.tuple #[.int k a, .int l c]) = .returned (.tuple #[.int k b, .int l d]) := by rw [h, h2]
theorem bcell {B : Nat} {W w1 : World} (hb : Below B W w1) : (∀ b o, b < B → w1.cell? ⟨b, o, none⟩ = W.cell? ⟨b, o, none⟩) ∧ (∀ b o, b < B → w1.frozen? ⟨b, o, none⟩ = W.frozen? ⟨b, o, none⟩) :=
  ⟨fun b o h => hb.cell (p := ⟨b, o, none⟩) h, fun b o h => hb.frozen (p := ⟨b, o, none⟩) h⟩
/-- W is w with new blocks. -/
def Nw (w W : World) : Prop := Below w.heap.size w W
theorem Nw.refl (w : World) : Nw w w := Below.refl _ _
theorem Nw.step {w W W' : World} (h : Nw w W) (hB : Below W.heap.size W W') : Nw w W' := Below.trans h (hB.mono h.size)
theorem Nw.drew {w W : World} (h : Nw w W) : Nw w W.drew := Below.drew h
theorem Nw.cell {w W : World} (h : Nw w W) {p : Addr} {v : Value} (c : w.cell? p = some v) : W.cell? p = some v := (Below.cell h (World.block_lt_of_cell? w p c)).trans c
theorem Nw.frozen {w W : World} (h : Nw w W) {p : Addr} {v : Value} (c : w.cell? p = some v) (z : w.frozen? p = false) : W.frozen? p = false := (Below.frozen h (World.block_lt_of_cell? w p c)).trans z
theorem Nw.alloc {w W : World} (h : Nw w W) (o : Obj) : Nw w (W.alloc o) := Below.alloc h h.size o
theorem Nw.set {w W : World} (h : Nw w W) {p : Addr} (hp : w.heap.size ≤ p.block) (v : Value) : Nw w (W.setCell p v) := Below.setCell h hp v
end Go.Proofs.YtalcafaibmbgjaaDoor
