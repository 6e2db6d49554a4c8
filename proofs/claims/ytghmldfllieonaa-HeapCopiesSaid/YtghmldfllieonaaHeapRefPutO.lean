/- The document's heap: Put, the three appends: what they leave. Helper. -/
import Derived.Test.YtghmldfllieonaaHeapRef
namespace Go.Proofs.Ytghmldfllieonaa
open Go.RowKit
set_option linter.unusedVariables false
set_option linter.unusedSimpArgs false
theorem Own.rdAt {w : World} {e : TypeId} {size : Nat} {A : Option Addr} {n c : Nat} {xs : List Value} {blk : Option Nat} (h : Own w e size (.slice A n c) n xs blk) : Rd w A xs := by
  obtain ⟨A', c', hv, hrd, _, _⟩ := h.rd
  injection hv with e1
  rw [e1]; exact hrd
theorem Rd.nw {w w' : World} {A : Option Addr} {xs : List Value} (h : Rd w A xs) (hN : Nw w w') : Rd w' A xs := by
  rcases h with h | ⟨b, o, e, h⟩
  · exact .inl h
  · exact .inr ⟨b, o, e, fun j u hu => hN.cell (h j u hu)⟩
theorem chg_nw {w W w' : World} {blk : Option Nat} (h : Nw w W) (hb : ∀ g, blk = some g → w.heap.size ≤ g) (hc : Chg (fun k => some k = blk) W w') : Nw w w' :=
  Below.trans h (hc.below (fun i _ q => hb i q.symm) h.size)
theorem at_new {w W : World} {blk blk' : Option Nat} (h : Nw w W) (hb : ∀ g, blk = some g → w.heap.size ≤ g) (hat : blk' = blk ∨ blk' = some W.heap.size) : ∀ g, blk' = some g → w.heap.size ≤ g := fun g q => by
  rcases hat with e | e
  · exact hb g (e ▸ q)
  · rw [e] at q; injection q with q; have := h.size; omega
/-- An item laid in front of the first one that it is ahead of. -/
def InsIs (L : List It) (x : It) (a : Nat) : Prop := a ≤ L.length ∧ (∀ j, j < a → (g L j).less x = true) ∧ (a = L.length ∨ (g L a).less x = false)
def insAt (L : List It) (x : It) (a : Nat) : List It := L.take a ++ [x] ++ L.drop a
theorem insAt_length (L : List It) (x : It) (a : Nat) (h : a ≤ L.length) : (insAt L x a).length = L.length + 1 := by
  unfold insAt; rw [List.length_append, List.length_append, List.length_take, List.length_drop, List.length_singleton]; omega
def findRegion (n : Nat) : Code → Option Code
  | .region k ops d => if k = n then some (.region k ops d) else none
  | .loop c => findRegion n c
  | .seq a b => match findRegion n a with
    | some c => some c
    | none => findRegion n b
  | .block _ c => findRegion n c
  | .scope c => findRegion n c
  | .cond _ a b => match findRegion n a with
    | some c => some c
    | none => findRegion n b
  | _ => none
noncomputable def codePut : Code := ((Try.f10.body.bind (findRegion 8)).getD .skip)
/-- What the three appends and the store leave. -/
def PutDone (wr w' : World) (gR n k : Nat) (L : List It) (e : It) : Prop :=
  ∃ A c blk, Blk w' gR 28 #[.slice A (n + 1) c] ∧ Own w' 36 7 (.slice A (n + 1) c) (n + 1) (rowsI (insAt L e k)) blk ∧ Chg (fun x => x = gR) wr w' ∧ ∀ g, blk = some g → wr.heap.size ≤ g
theorem putDone {wr w9 : World} {gR n k a c : Nat} {A A' : Option Addr} {L : List It} {e : It} {blk : Option Nat} (hk : k ≤ n) (ha : a = n + 1) (hb : Blk wr gR 28 #[.slice A' n c]) (hN : Nw wr w9) {c9 : Nat}
    (ho : Own w9 36 7 (.slice A a c9) a (rowsI (L.take k) ++ e.c ++ rowsI (L.drop k)) blk) (hg : ∀ g, blk = some g → wr.heap.size ≤ g) : PutDone wr (w9.setCell ⟨gR, 0, none⟩ (.slice A a c9)) gR n k L e := by
  subst ha
  have hb9 := hb.below hN hb.lt
  refine ⟨A, c9, blk, hb9.set_ 0 _, ?_, Chg.setCell (M := fun x => x = gR) (Chg.of_below hN (Nat.le_refl _) _) (p := ⟨gR, 0, none⟩) (.inl rfl) _, hg⟩
  unfold insAt
  rw [rowsI_append, rowsI_append, rowsI_one]
  exact ho.kept fun g q => Below.heap_setCell _ _ _ _ (fun h => by have := hg g q; have := hb.lt; subst h; simp at *; omega)
end Go.Proofs.Ytghmldfllieonaa
