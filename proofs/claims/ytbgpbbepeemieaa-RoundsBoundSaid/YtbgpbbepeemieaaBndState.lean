/- RoundsBound: what lies in memory while the law runs. Helper. -/
import Derived.Test.YtbgpbbepeemieaaBndParts
import Derived.Test.YtbgpbbepeemieaaRndKnown
namespace Go.Proofs.Ytbgpbbepeemieaa
open Go.RowKit
set_option linter.unusedVariables false
set_option linter.unusedSimpArgs false
/-- Who was told, in block B. -/
def ToldAt (w : World) (B n : Nat) (told : Nat → Bool) : Prop := ∃ a, Blk w B 4 a ∧ ∀ i, i ≤ n → a[i]? = some (.bool (told i))
structure St (w0 w : World) (R C S L LB TB n : Nat) (r : Rn) (low : Ky) (told : Nat → Bool) : Prop where
  rm : RM w R C S L r
  lw : LowAt w LB low
  tl : ToldAt w TB n told
  bel : Below w0.heap.size w0 w
  new : ∀ k, Four R C S L k → w0.heap.size ≤ k
  ord : ∀ k, Four R C S L k → k < LB
  lt : LB < TB
  nn : r.n = n
theorem St.fresh {w0 w w' : World} {R C S L LB TB n : Nat} {r : Rn} {low : Ky} {told : Nat → Bool} (h : St w0 w R C S L LB TB n r low told) (hB : Below w.heap.size w w') : St w0 w' R C S L LB TB n r low told := by
  obtain ⟨a, ha, fa⟩ := h.tl
  exact ⟨h.rm.new hB, Blk.below h.lw hB h.lw.lt, ⟨a, ha.below hB ha.lt, fa⟩, h.bel.trans (hB.mono h.bel.size), h.new, h.ord, h.lt, h.nn⟩
theorem St.ge {w0 w : World} {R C S L LB TB n : Nat} {r : Rn} {low : Ky} {told : Nat → Bool} (h : St w0 w R C S L LB TB n r low told) : w0.heap.size ≤ LB ∧ w0.heap.size ≤ TB := by
  have h1 := h.new R (.inl rfl)
  have h2 := h.ord R (.inl rfl)
  have h3 := h.lt
  omega
theorem St.turn {w0 w w' : World} {R C S L LB TB n : Nat} {r r' : Rn} {low : Ky} {told : Nat → Bool} (h : St w0 w R C S L LB TB n r low told) (hr : RM w' R C S L r') (hc : Chg (Four R C S L) w w') (hn : r'.n = r.n) : St w0 w' R C S L LB TB n r' low told := by
  obtain ⟨a, ha, fa⟩ := h.tl
  have h1 : ¬ Four R C S L LB := fun g => by have := h.ord LB g; omega
  have h2 : ¬ Four R C S L TB := fun g => by have := h.ord TB g; have := h.lt; omega
  exact ⟨hr, Blk.chg h.lw hc h1, ⟨a, ha.chg hc h2, fa⟩, h.bel.trans (hc.below (fun i _ hi => h.new i hi) h.bel.size), h.new, h.ord, h.lt, hn.trans h.nn⟩
theorem St.lower {w0 w w' : World} {R C S L LB TB n : Nat} {r : Rn} {low low' : Ky} {told : Nat → Bool} (h : St w0 w R C S L LB TB n r low told) (hl : LowAt w' LB low') (hc : Chg (fun i => i = LB) w w') : St w0 w' R C S L LB TB n r low' told := by
  obtain ⟨a, ha, fa⟩ := h.tl
  obtain ⟨l1, l2, l3, l4⟩ := h.rm.lt
  have hk : ∀ k, Four R C S L k → w'.heap[k]? = w.heap[k]? := fun k hk => hc.block k (by rcases hk with rfl | rfl | rfl | rfl <;> assumption) (fun e => by have := h.ord k hk; omega)
  have hlt := h.lt
  exact ⟨h.rm.kept hk, hl, ⟨a, ha.chg hc (by omega), fa⟩, h.bel.trans (hc.below (fun i _ hi => by rw [hi]; exact h.ge.1) h.bel.size), h.new, h.ord, h.lt, h.nn⟩
theorem St.tell {w0 w : World} {R C S L LB TB n : Nat} {r : Rn} {low : Ky} {told : Nat → Bool} (h : St w0 w R C S L LB TB n r low told) {p : Nat} (hp : p ≤ n) : St w0 (w.setCell ⟨TB, p, none⟩ (.bool true)) R C S L LB TB n r low (fun q => if q = p then true else told q) := by
  obtain ⟨a, ha, fa⟩ := h.tl
  obtain ⟨l1, l2, l3, l4⟩ := h.rm.lt
  have hlt := h.lt
  have hc : Chg (fun i => i = TB) w (w.setCell ⟨TB, p, none⟩ (.bool true)) := Chg.one (M := fun i => i = TB) rfl _
  have hk : ∀ k, Four R C S L k → (w.setCell ⟨TB, p, none⟩ (.bool true)).heap[k]? = w.heap[k]? := fun k hk => hc.block k (by rcases hk with rfl | rfl | rfl | rfl <;> assumption) (fun e => by have := h.ord k hk; omega)
  have hsz : p < a.size := by
    rcases Nat.lt_or_ge p a.size with g | g
    · exact g
    · have := fa p hp; rw [Array.getElem?_eq_none g] at this; cases this
  refine ⟨h.rm.kept hk, Blk.chg h.lw hc (by omega), ⟨_, ha.set_ p _, fun i hi => ?_⟩, h.bel.trans (hc.below (fun i _ hi => by rw [hi]; exact h.ge.2) h.bel.size), h.new, h.ord, h.lt, h.nn⟩
  rw [Array.getElem?_setIfInBounds]
  dsimp only
  by_cases e : i = p
  · subst e; simp [hsz]
  · rw [if_neg (fun g => e g.symm), if_neg e]; exact fa i hi
theorem St.toldCell {w0 w : World} {R C S L LB TB n : Nat} {r : Rn} {low : Ky} {told : Nat → Bool} (h : St w0 w R C S L LB TB n r low told) {p : Nat} (hp : p ≤ n) : w.cell? ⟨TB, p, none⟩ = some (.bool (told p)) := by
  obtain ⟨a, ha, fa⟩ := h.tl
  exact (ha.cell p).trans (fa p hp)
end Go.Proofs.Ytbgpbbepeemieaa
