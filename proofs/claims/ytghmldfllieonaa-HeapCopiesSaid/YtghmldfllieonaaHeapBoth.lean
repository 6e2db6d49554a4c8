/- Both heaps, ours and the document's: one list in its order. Helper. -/
import Derived.Test.YtghmldfllieonaaHeapKnown
import Derived.Test.YtghmldfllieonaaHeapRefPut
import Derived.Test.YtghmldfllieonaaHeapRefDrop
namespace Go.Proofs.Ytghmldfllieonaa
open Go.RowKit
set_option linter.unusedVariables false
set_option linter.unusedSimpArgs false
/-- The blocks of the document's heap. -/
def RU (gR : Nat) (blk : Option Nat) : Nat → Prop := fun k => k = gR ∨ some k = blk
def Srt (L : List It) : Prop := L.Pairwise fun a b => a.less b = true
/-- Both heaps, that a walk from w on has made; L: what is there, in its order. -/
def BothH (w W : World) (gB gR : Nat) (L : List It) : Prop :=
  ∃ blk, HeapO (RU gR blk) w W gB L ∧ RefH W gR L blk ∧ w.heap.size ≤ gR ∧ (∀ g, blk = some g → w.heap.size ≤ g) ∧ Srt L
theorem BothH.nw {w W : World} {gB gR : Nat} {L : List It} (h : BothH w W gB gR L) : Nw w W := by
  obtain ⟨blk, h, _⟩ := h; exact h.nw
theorem BothH.step {w W W' : World} {gB gR : Nat} {L : List It} (h : BothH w W gB gR L) (hB : Below W.heap.size W W') : BothH w W' gB gR L := by
  obtain ⟨blk, h1, h2, h3⟩ := h; exact ⟨blk, h1.step hB, h2.new hB, h3⟩
theorem Srt.uniq {w W : World} {gB : Nat} {U : Nat → Prop} {L : List It} (h : HeapO U w W gB L) {x : It} (hx : x ∈ L) : ∀ y ∈ L, isN x.k.O x.n y → y = x := fun y hy hn => h.uniq hy hx hn.1 hn.2
/-- Ours turns, the document's stays. -/
theorem BothH.ours {w W W' : World} {gB gR : Nat} {L L' : List It} {blk : Option Nat} (h : RefH W gR L blk) (h2 : HeapO2 (RU gR blk) w W W' gB L') : RefH W' gR L blk :=
  h.chg h2.2 (fun hn => hn (.inl rfl)) (fun g hg hn => hn (.inr hg.symm))
/-- The document's turns, ours stays. -/
theorem BothH.refs {w W W' : World} {gB gR : Nat} {L L' : List It} {blk blk' : Option Nat} (h : HeapO (RU gR blk) w W gB L) (hr : RefH W gR L' blk) (hr' : ∃ L2, RefH W' gR L2 blk') (hC : Chg (fun j => j = gR) W W') (hf : ∀ g, blk' = some g → W.heap.size ≤ g) (h1 : w.heap.size ≤ gR) : HeapO (RU gR blk') w W' gB L := by
  have h0 : HeapO (fun j => j = gR) w W gB L := by
    obtain ⟨S, v, f, blk2, l, hp, hh, ht, hu, hn⟩ := h
    exact ⟨S, v, f, blk2, l, hp, hh, fun k hk => ⟨(ht k hk).1, fun e => (ht k hk).2 (.inl e)⟩, fun k hk => by subst hk; exact hr.lt.1, hn⟩
  obtain ⟨L2, hr'⟩ := hr'
  refine h0.others hC (fun k hk => ?_) (fun k hk => ?_) (fun k hk => by subst hk; exact h1)
  · rcases hk with hk | hk
    · exact .inl hk
    · exact .inr (hf k hk.symm)
  · rcases hk with hk | hk
    · subst hk; exact hr'.lt.1
    · exact hr'.lt.2 k hk.symm
theorem ins_sorted {L : List It} {x : It} {a : Nat} (hs : Srt L) (hi : InsIs L x a) (hx : ∀ y ∈ L, ¬ isN x.k.O x.n y) : Srt (insAt L x a) := by
  obtain ⟨h1, h2, h3⟩ := hi
  have hs' := hs
  unfold Srt at hs
  rw [← List.take_append_drop a L, List.pairwise_append] at hs
  have hsT := hs.1
  have hsD := hs.2.1
  have hTD := hs.2.2
  have hT : ∀ y ∈ L.take a, y.less x = true := fun y hy => by
    obtain ⟨j, hj, e⟩ := List.getElem_of_mem hy
    rw [List.length_take] at hj
    have := h2 j (by omega)
    rw [g_get L j (by omega)] at this
    rw [List.getElem_take] at e
    rw [← e]; exact this
  have hD : ∀ y ∈ L.drop a, x.less y = true := fun y hy => by
    have hal : a < L.length := by
      obtain ⟨j, hj, _⟩ := List.getElem_of_mem hy
      rw [List.length_drop] at hj; omega
    have h4 : (g L a).less x = false := by
      rcases h3 with h3 | h3
      · omega
      · exact h3
    have h5 : x.less (g L a) = true := by
      rw [← Bool.not_eq_false]
      intro h6
      have := It.tie h4 h6
      exact hx _ (g_mem hal) ⟨by rw [this.1], this.2⟩
    rw [List.drop_eq_getElem_cons hal] at hy hsD
    rcases List.mem_cons.1 hy with e | hy
    · rw [e, ← g_get L a hal]; exact h5
    · refine It.less_trans h5 ?_
      rw [g_get L a hal]
      exact (List.pairwise_cons.1 hsD).1 y hy
  unfold Srt insAt
  rw [List.append_assoc, List.pairwise_append]
  refine ⟨hsT, ?_, fun y hy z hz => ?_⟩
  · rw [List.singleton_append, List.pairwise_cons]
    exact ⟨hD, hsD⟩
  · rw [List.singleton_append] at hz
    rcases List.mem_cons.1 hz with e | hz
    · rw [e]; exact hT y hy
    · exact hTD y hy z hz
theorem ins_perm (L : List It) (x : It) (a : Nat) : (L ++ [x]).Perm (insAt L x a) := by
  unfold insAt
  conv => lhs; rw [← List.take_append_drop a L]
  rw [List.append_assoc, List.append_assoc]
  exact List.Perm.append_left _ List.perm_append_comm
theorem drop_sorted {L : List It} (hs : Srt L) (k : Nat) : Srt (L.take k ++ L.drop (k + 1)) := by
  refine List.Pairwise.sublist ?_ hs
  conv => rhs; rw [← List.take_append_drop k L]
  exact List.Sublist.append_left (List.drop_sublist_drop_left L (Nat.le_succ k)) _
theorem drop_erase {L : List It} {k : Nat} (hk : k < L.length) : (L.erase (g L k)).Perm (L.take k ++ L.drop (k + 1)) := by
  have h1 : L.Perm (g L k :: L.erase (g L k)) := List.perm_cons_erase (g_mem hk)
  have h2 : L.Perm (g L k :: (L.take k ++ L.drop (k + 1))) := by
    conv => lhs; rw [← List.take_append_drop k L, List.drop_eq_getElem_cons hk, ← g_get L k hk]
    exact List.perm_middle
  exact (List.Perm.cons_inv (h1.symm.trans h2))
theorem Srt.least {L : List It} (hs : Srt L) {x : It} {r : List It} (e : L = x :: r) : x ∈ L ∧ (∀ y ∈ L, y.less x = false) ∧ L.erase x = r := by
  subst e
  refine ⟨by simp, fun y hy => ?_, by simp⟩
  rcases List.mem_cons.1 hy with h | h
  · rw [h]; exact It.less_irrefl _
  · exact It.less_asymm ((List.pairwise_cons.1 hs).1 y h)
end Go.Proofs.Ytghmldfllieonaa
