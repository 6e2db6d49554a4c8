/- Both heaps, act by act: Put, Drop, Take. Helper. -/
import Derived.Test.YtghmldfllieonaaHeapBoth
namespace Go.Proofs.Ytghmldfllieonaa
open Go.RowKit
set_option linter.unusedVariables false
set_option linter.unusedSimpArgs false
/-- Ours has put an item and told x; the document's has not yet. -/
def PutMid (w W : World) (gB gR : Nat) (L : List It) (e : It) (x : Int) : Prop :=
  (x = 7 ∧ (∃ y ∈ L, isN e.k.O e.n y) ∧ BothH w W gB gR L) ∨ (x = 5 ∧ (∀ y ∈ L, ¬ isN e.k.O e.n y) ∧ 1024 ≤ L.length ∧ BothH w W gB gR L) ∨
  (x = 0 ∧ (∀ y ∈ L, ¬ isN e.k.O e.n y) ∧ L.length < 1024 ∧ Srt L ∧ ∃ blk, HeapO (RU gR blk) w W gB (L ++ [e]) ∧ RefH W gR L blk ∧ w.heap.size ≤ gR ∧ ∀ g, blk = some g → w.heap.size ≤ g)
/-- Ours has dropped an item of a name. -/
def DropMid (w W : World) (gB gR : Nat) (L : List It) (O N : Int) (x : It) (is : Bool) : Prop :=
  (is = false ∧ x = It.zero ∧ (∀ y ∈ L, ¬ isN O N y) ∧ BothH w W gB gR L) ∨
  (is = true ∧ x ∈ L ∧ isN O N x ∧ (∀ y ∈ L, isN O N y → y = x) ∧ Srt L ∧ ∃ blk, HeapO (RU gR blk) w W gB (L.erase x) ∧ RefH W gR L blk ∧ w.heap.size ≤ gR ∧ ∀ g, blk = some g → w.heap.size ≤ g)
theorem em_name (L : List It) (O N : Int) : (∃ y ∈ L, isN O N y) ∨ ∀ y ∈ L, ¬ isN O N y := by
  by_cases h : ∃ y ∈ L, isN O N y
  · exact .inl h
  · exact .inr fun y hy hn => h ⟨y, hy, hn⟩
theorem ours_size {w W w' : World} {U : Nat → Prop} {gB : Nat} {L : List It} (h : HeapO2 U w W w' gB L) : W.heap.size ≤ w'.heap.size := h.2.size
section
variable (w W : World) (gB gR : Nat) (L : List It)
theorem put_mine (e : It) (h : BothH w W gB gR L) (he : WOk e) : Calls Try.prog 9 #[.pointer (some ⟨gB, 0, none⟩), .agg e.c.toArray] W fun r w' => ∃ x, r = .returned (.int .i64 x) ∧ PutMid w w' gB gR L e x := by
  obtain ⟨blk, h1, h2, h3, h4, h5⟩ := h
  rcases em_name L e.k.O e.n with ⟨y, hy, hn⟩ | hn
  · exact (putTwice_in (RU gR blk) w W gB L e y h1 he hy hn.1 hn.2).mono fun r w' ⟨hr, ho⟩ => ⟨7, hr, .inl ⟨rfl, ⟨y, hy, hn⟩, blk, ho.1, BothH.ours (L' := L) h2 ho, h3, h4, h5⟩⟩
  · rcases Nat.lt_or_ge L.length 1024 with hl | hl
    · exact (put_in (RU gR blk) w W gB L e h1 he hn hl).mono fun r w' ⟨hr, ho⟩ => ⟨0, hr, .inr (.inr ⟨rfl, hn, hl, h5, blk, ho.1, BothH.ours h2 ho, h3, h4⟩)⟩
    · exact (putFull_in (RU gR blk) w W gB L e h1 he hn hl).mono fun r w' ⟨hr, ho⟩ => ⟨5, hr, .inr (.inl ⟨rfl, hn, hl, blk, ho.1, BothH.ours (L' := L) h2 ho, h3, h4, h5⟩)⟩
theorem PutMid.step {w W W' : World} {gB gR : Nat} {L : List It} {e : It} {x : Int} (h : PutMid w W gB gR L e x) (hB : Below W.heap.size W W') : PutMid w W' gB gR L e x := by
  rcases h with ⟨h1, h2, h3⟩ | ⟨h1, h2, h3, h4⟩ | ⟨h1, h2, h3, h4, blk, h5, h6, h7⟩
  · exact .inl ⟨h1, h2, h3.step hB⟩
  · exact .inr (.inl ⟨h1, h2, h3, h4.step hB⟩)
  · exact .inr (.inr ⟨h1, h2, h3, h4, blk, h5.step hB, h6.new hB, h7⟩)
theorem put_theirs (e : It) (x : Int) (h : PutMid w W gB gR L e x) (hl : L.length ≤ 100000) : Calls Try.prog 10 #[.pointer (some ⟨gR, 0, none⟩), .agg e.c.toArray] W fun r w' => r = .returned (.int .i64 x) ∧ ∃ L', L'.length ≤ L.length + 1 ∧ BothH w w' gB gR L' := by
  rcases h with ⟨rfl, ⟨y, hy, hn⟩, hb⟩ | ⟨rfl, hn, hf, hb⟩ | ⟨rfl, hn, hf, hs, blk, h1, h2, h3, h4⟩
  · obtain ⟨blk, h1, h2, h3⟩ := hb
    exact (refPut_twice W gR L blk e h2 hl y hy hn).mono fun r w' ⟨hr, hB⟩ => ⟨hr, L, by omega, blk, h1.step hB, h2.new hB, h3⟩
  · obtain ⟨blk, h1, h2, h3⟩ := hb
    exact (refPut_full W gR L blk e h2 hl hn hf).mono fun r w' ⟨hr, hB⟩ => ⟨hr, L, by omega, blk, h1.step hB, h2.new hB, h3⟩
  · exact (refPut_any W gR L blk e h2 hn hf).mono fun r w' ⟨hr, a, blk', hi, h2', hc, hfr⟩ =>
      ⟨hr, insAt L e a, by rw [insAt_length L e a hi.1]; exact Nat.le_refl _, blk', (BothH.refs h1 h2 ⟨_, h2'⟩ hc hfr h3).perm (ins_perm L e a), h2', h3, fun g hg => Nat.le_trans h1.nw.size (hfr g hg), ins_sorted hs hi hn⟩
theorem drop_mine (O N : Int) (h : BothH w W gB gR L) (hO : W64 O) (hN : W64 N) (hl : L.length ≤ 100000) : Calls Try.prog 11 #[.pointer (some ⟨gB, 0, none⟩), .int .i64 O, .int .i64 N] W fun r w' => ∃ x is, r = .returned (itv x is) ∧ DropMid w w' gB gR L O N x is := by
  obtain ⟨blk, h1, h2, h3, h4, h5⟩ := h
  rcases em_name L O N with ⟨y, hy, hn⟩ | hn
  · obtain ⟨rfl, rfl⟩ := hn
    exact (drop_in (RU gR blk) w W gB L y h1 (h1.wf hy) hy hl).mono fun r w' ⟨hr, ho⟩ => ⟨y, true, hr, .inr ⟨rfl, hy, ⟨rfl, rfl⟩, Srt.uniq h1 hy, h5, blk, ho.1, BothH.ours h2 ho, h3, h4⟩⟩
  · exact (dropNo_in (RU gR blk) w W gB L O N h1 hO hN hn).mono fun r w' ⟨hr, ho⟩ => ⟨It.zero, false, hr, .inl ⟨rfl, rfl, hn, blk, ho.1, BothH.ours (L' := L) h2 ho, h3, h4, h5⟩⟩
theorem DropMid.step {w W W' : World} {gB gR : Nat} {L : List It} {O N : Int} {x : It} {is : Bool} (h : DropMid w W gB gR L O N x is) (hB : Below W.heap.size W W') : DropMid w W' gB gR L O N x is := by
  rcases h with ⟨h1, h2, h3, h4⟩ | ⟨h1, h2, h3, h4, h5, blk, h6, h7, h8⟩
  · exact .inl ⟨h1, h2, h3, h4.step hB⟩
  · exact .inr ⟨h1, h2, h3, h4, h5, blk, h6.step hB, h7.new hB, h8⟩
theorem drop_theirs (O N : Int) (x : It) (is : Bool) (h : DropMid w W gB gR L O N x is) (hl : L.length ≤ 100000) : Calls Try.prog 12 #[.pointer (some ⟨gR, 0, none⟩), .int .i64 O, .int .i64 N] W fun r w' => r = .returned (itv x is) ∧ ∃ L', L'.length ≤ L.length ∧ BothH w w' gB gR L' := by
  rcases h with ⟨rfl, rfl, hn, hb⟩ | ⟨rfl, hx, hn, hu, hs, blk, h1, h2, h3, h4⟩
  · obtain ⟨blk, h1, h2, h3⟩ := hb
    exact (refDrop_none W gR L blk O N h2 hl hn).mono fun r w' ⟨hr, hB⟩ => ⟨hr, L, Nat.le_refl _, blk, h1.step hB, h2.new hB, h3⟩
  · exact (refDrop_any W gR L blk O N h2 hl x hx hn hu).mono fun r w' ⟨hr, k, blk', hk, hg, h2', hc, hfr⟩ =>
      ⟨hr, L.take k ++ L.drop (k + 1), by rw [List.length_append, List.length_take, List.length_drop]; omega, blk', (BothH.refs h1 h2 ⟨_, h2'⟩ hc hfr h3).perm (by rw [← hg]; exact drop_erase hk), h2', h3, fun g hg => Nat.le_trans h1.nw.size (hfr g hg), drop_sorted hs k⟩
end
end Go.Proofs.Ytghmldfllieonaa
