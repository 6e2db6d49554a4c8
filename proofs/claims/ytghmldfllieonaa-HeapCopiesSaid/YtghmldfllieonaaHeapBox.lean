/- Both heaps beside a box of the caller's. Helper. -/
import Derived.Test.YtghmldfllieonaaHeapPairs
namespace Go.Proofs.Ytghmldfllieonaa
open Go.RowKit
set_option linter.unusedVariables false
set_option linter.unusedSimpArgs false
theorem HeapO.weak {U V : Nat → Prop} {w W : World} {gB : Nat} {L : List It} (h : HeapO V w W gB L) (hs : ∀ k, U k → V k) : HeapO U w W gB L := by
  obtain ⟨S, v, f, blk, l, hp, hh, ht, hu, hn⟩ := h
  exact ⟨S, v, f, blk, l, hp, hh, fun k hk => ⟨(ht k hk).1, fun q => (ht k hk).2 (hs k q)⟩, fun k hk => hu k (hs k hk), hn⟩
theorem HeapO2.weak {U V : Nat → Prop} {w W W' : World} {gB : Nat} {L : List It} (h : HeapO2 V w W W' gB L) (hs : ∀ k, U k → V k) : HeapO2 U w W W' gB L :=
  ⟨h.1.weak hs, h.2.mono fun i _ hi q => hi (hs i q)⟩
/-- Both heaps, and a box. -/
def BothB (w W : World) (gB gR : Nat) (L : List It) (gA : Nat) (t : TypeId) (cs : Array Value) : Prop :=
  ∃ blk, HeapO (fun k => RU gR blk k ∨ k = gA) w W gB L ∧ RefH W gR L blk ∧ w.heap.size ≤ gR ∧ (∀ g, blk = some g → w.heap.size ≤ g) ∧ Srt L ∧ gA ≠ gR ∧ Blk W gA t cs
section
variable {w W W' : World} {gB gR : Nat} {L : List It} {gA : Nat} {t : TypeId} {cs : Array Value}
theorem BothB.both (h : BothB w W gB gR L gA t cs) : BothH w W gB gR L := by
  obtain ⟨blk, h1, h2, h3, h4, h5, _⟩ := h
  exact ⟨blk, h1.weak fun k hk => .inl hk, h2, h3, h4, h5⟩
theorem BothB.blk (h : BothB w W gB gR L gA t cs) : Blk W gA t cs := by
  obtain ⟨blk, h1, h2, h3, h4, h5, h6, h7⟩ := h; exact h7
theorem BothB.ne (h : BothB w W gB gR L gA t cs) : gA ≠ gR := by
  obtain ⟨blk, h1, h2, h3, h4, h5, h6, h7⟩ := h; exact h6
theorem BothB.step (h : BothB w W gB gR L gA t cs) (hB : Below W.heap.size W W') : BothB w W' gB gR L gA t cs := by
  obtain ⟨blk, h1, h2, h3, h4, h5, h6, h7⟩ := h
  exact ⟨blk, h1.step hB, h2.new hB, h3, h4, h5, h6, h7.below hB h7.lt⟩
theorem BothB.drew (h : BothB w W gB gR L gA t cs) : BothB w W.drew gB gR L gA t cs := h.step (Below.refl _ _).drew
theorem PutMid.drew {e : It} {x : Int} (h : PutMid w W gB gR L e x) : PutMid w W.drew gB gR L e x := h.step (Below.refl _ _).drew
theorem BothH.drew (h : BothH w W gB gR L) : BothH w W.drew gB gR L := h.step (Below.refl _ _).drew
theorem BothH.boxed (h : BothH w W gB gR L) (t : TypeId) (cs : Array Value) : BothB w (W.alloc (.cells cs t)) gB gR L W.heap.size t cs := by
  obtain ⟨blk, h1, h2, h3, h4, h5⟩ := h
  have hr := h2.lt
  have hB : Below W.heap.size W (W.alloc (.cells cs t)) := (Below.refl _ W).alloc (Nat.le_refl _) _
  refine ⟨blk, h1.grow hB (fun k hk => ?_) (fun k hk => ?_), h2.new hB, h3, h4, h5, by omega, Blk.last _ _ _ rfl⟩
  · rcases hk with hk | rfl
    · exact .inl hk
    · exact .inr (Nat.le_refl _)
  · rcases hk with (rfl | hk) | rfl
    · have := hr.1; simp; omega
    · have := hr.2 k hk.symm; simp; omega
    · simp
end
section
variable (w W : World) (gB gR : Nat) (L : List It) (gA : Nat) (t : TypeId) (cs : Array Value)
theorem put_mineB (e : It) (h : BothB w W gB gR L gA t cs) (he : WOk e) : Calls Try.prog 9 #[.pointer (some ⟨gB, 0, none⟩), .agg e.c.toArray] W fun r w' => ∃ x, r = .returned (.int .i64 x) ∧ PutMid w w' gB gR L e x ∧ Blk w' gA t cs := by
  obtain ⟨blk, h1, h2, h3, h4, h5, h6, h7⟩ := h
  have hs : ∀ k, RU gR blk k → RU gR blk k ∨ k = gA := fun k hk => .inl hk
  rcases em_name L e.k.O e.n with ⟨y, hy, hn⟩ | hn
  · exact (putTwice_in _ w W gB L e y h1 he hy hn.1 hn.2).mono fun r w' ⟨hr, ho⟩ => ⟨7, hr, .inl ⟨rfl, ⟨y, hy, hn⟩, blk, ho.1.weak hs, BothH.ours (L' := L) h2 (ho.weak hs), h3, h4, h5⟩, ho.keep h7 (.inr rfl)⟩
  · rcases Nat.lt_or_ge L.length 1024 with hl | hl
    · exact (put_in _ w W gB L e h1 he hn hl).mono fun r w' ⟨hr, ho⟩ => ⟨0, hr, .inr (.inr ⟨rfl, hn, hl, h5, blk, ho.1.weak hs, BothH.ours h2 (ho.weak hs), h3, h4⟩), ho.keep h7 (.inr rfl)⟩
    · exact (putFull_in _ w W gB L e h1 he hn hl).mono fun r w' ⟨hr, ho⟩ => ⟨5, hr, .inr (.inl ⟨rfl, hn, hl, blk, ho.1.weak hs, BothH.ours (L' := L) h2 (ho.weak hs), h3, h4, h5⟩), ho.keep h7 (.inr rfl)⟩
theorem drop_mineB (O N : Int) (h : BothB w W gB gR L gA t cs) (hO : W64 O) (hN : W64 N) (hl : L.length ≤ 100000) : Calls Try.prog 11 #[.pointer (some ⟨gB, 0, none⟩), .int .i64 O, .int .i64 N] W fun r w' => ∃ x is, r = .returned (itv x is) ∧ DropMid w w' gB gR L O N x is ∧ Blk w' gA t cs := by
  obtain ⟨blk, h1, h2, h3, h4, h5, h6, h7⟩ := h
  have hs : ∀ k, RU gR blk k → RU gR blk k ∨ k = gA := fun k hk => .inl hk
  rcases em_name L O N with ⟨y, hy, hn⟩ | hn
  · have hu := Srt.uniq (h1.weak hs) hy
    obtain ⟨rfl, rfl⟩ := hn
    exact (drop_in _ w W gB L y h1 (h1.wf hy) hy hl).mono fun r w' ⟨hr, ho⟩ => ⟨y, true, hr, .inr ⟨rfl, hy, ⟨rfl, rfl⟩, hu, h5, blk, ho.1.weak hs, BothH.ours h2 (ho.weak hs), h3, h4⟩, ho.keep h7 (.inr rfl)⟩
  · exact (dropNo_in _ w W gB L O N h1 hO hN hn).mono fun r w' ⟨hr, ho⟩ => ⟨It.zero, false, hr, .inl ⟨rfl, rfl, hn, blk, ho.1.weak hs, BothH.ours (L' := L) h2 (ho.weak hs), h3, h4, h5⟩, ho.keep h7 (.inr rfl)⟩
theorem drop_theirsC (O N : Int) (x : It) (is : Bool) (h : DropMid w W gB gR L O N x is) (hl : L.length ≤ 100000) : Calls Try.prog 12 #[.pointer (some ⟨gR, 0, none⟩), .int .i64 O, .int .i64 N] W fun r w' => r = .returned (itv x is) ∧ (∃ L', L'.length ≤ L.length + 1 ∧ BothH w w' gB gR L') ∧ Chg (fun j => j = gR) W w' := by
  rcases h with ⟨rfl, rfl, hn, hb⟩ | ⟨rfl, hx, hn, hu, hs, blk, h1, h2, h3, h4⟩
  · obtain ⟨blk, h1, h2, h3⟩ := hb
    exact (refDrop_none W gR L blk O N h2 hl hn).mono fun r w' ⟨hr, hB⟩ => ⟨hr, ⟨L, by omega, blk, h1.step hB, h2.new hB, h3⟩, Chg.of_below hB (Nat.le_refl _) _⟩
  · exact (refDrop_any W gR L blk O N h2 hl x hx hn hu).mono fun r w' ⟨hr, k, blk', hk, hg, h2', hc, hfr⟩ =>
      ⟨hr, ⟨L.take k ++ L.drop (k + 1), by rw [List.length_append, List.length_take, List.length_drop]; omega, blk', (BothH.refs h1 h2 ⟨_, h2'⟩ hc hfr h3).perm (by rw [← hg]; exact drop_erase hk), h2', h3, fun g hg => Nat.le_trans h1.nw.size (hfr g hg), drop_sorted hs k⟩, hc⟩
theorem take_theirsC (x : It) (is : Bool) (h : TakeMid w W gB gR L x is) (hl : L.length ≤ 100000) : Calls Try.prog 33 #[.pointer (some ⟨gR, 0, none⟩)] W fun r w' => r = .returned (itv x is) ∧ (∃ L', L'.length ≤ L.length + 1 ∧ BothH w w' gB gR L') ∧ Chg (fun j => j = gR) W w' := by
  rcases h with ⟨rfl, rfl, hL, hb⟩ | ⟨rfl, h0, rfl, hu, hs, blk, h1, h2, h3, h4⟩
  · obtain ⟨blk, h1, h2, h3⟩ := hb
    exact (refTake_none W gR L blk h2 hL).mono fun r w' ⟨hr, hB⟩ => ⟨hr, ⟨L, by omega, blk, h1.step hB, h2.new hB, h3⟩, Chg.of_below hB (Nat.le_refl _) _⟩
  · exact (refTake_any W gR L blk h2 h0 hl hu).mono fun r w' ⟨hr, k, blk', hk, hg, h2', hc, hfr⟩ =>
      ⟨hr, ⟨L.take k ++ L.drop (k + 1), by rw [List.length_append, List.length_take, List.length_drop]; omega, blk', (BothH.refs h1 h2 ⟨_, h2'⟩ hc hfr h3).perm (by rw [← hg]; exact drop_erase hk), h2', h3, fun g hg => Nat.le_trans h1.nw.size (hfr g hg), drop_sorted hs k⟩, hc⟩
theorem DropMid.lt {W : World} {O N : Int} {x : It} {is : Bool} (h : DropMid w W gB gR L O N x is) : gR < W.heap.size := by
  rcases h with ⟨_, _, _, blk, _, h, _⟩ | ⟨_, _, _, _, _, blk, _, h, _⟩ <;> exact h.lt.1
theorem TakeMid.lt {W : World} {x : It} {is : Bool} (h : TakeMid w W gB gR L x is) : gR < W.heap.size := by
  rcases h with ⟨_, _, _, blk, _, h, _⟩ | ⟨_, _, _, _, _, blk, _, h, _⟩ <;> exact h.lt.1
theorem least_mineB (h : BothH w W gB gR L) (hl : L.length ≤ 100000) : Calls Try.prog 16 #[.pointer (some ⟨gB, 0, none⟩)] W fun r w' => r = .returned (itv (firstI L) (isI L)) ∧ BothH w w' gB gR L ∧ Below W.heap.size W w' := by
  have hb := h
  obtain ⟨blk, ⟨S, v, f, bk, l, hp, hh, ht, hu, hn⟩, h2, h3, h4, h5⟩ := h
  by_cases h0 : 0 < L.length
  · obtain ⟨r, e⟩ := srt_head h5 h0
    obtain ⟨q1, q2, _⟩ := h5.least e
    have e1 : firstI L = g L 0 := if_neg (by omega)
    have e2 : isI L = true := decide_eq_true h0
    rw [e1, e2]
    have hx2 := hp.mem_iff.2 q1
    have he := hh.least_eq hx2 fun y hy => q2 y (hp.mem_iff.1 hy)
    have := leastI_any W gB S v l f bk hh (List.length_pos_of_mem hx2) (by rw [hp.length_eq]; exact hl)
    rw [he] at this
    exact this.mono fun r w' ⟨hr, hB⟩ => ⟨hr, hb.step hB, hB⟩
  · have e : L = [] := List.eq_nil_of_length_eq_zero (by omega)
    subst e
    exact (least_none W gB S v l f bk hh hp.eq_nil).mono fun r w' ⟨hr, hB⟩ => ⟨hr, hb.step hB, hB⟩
theorem most_mineB (h : BothH w W gB gR L) (hl : L.length ≤ 100000) : Calls Try.prog 17 #[.pointer (some ⟨gB, 0, none⟩)] W fun r w' => r = .returned (itv (lastI L) (isI L)) ∧ BothH w w' gB gR L ∧ Below W.heap.size W w' := by
  have hb := h
  obtain ⟨blk, ⟨S, v, f, bk, l, hp, hh, ht, hu, hn⟩, h2, h3, h4, h5⟩ := h
  by_cases h0 : 0 < L.length
  · obtain ⟨q1, q2⟩ := srt_last h5 h0
    have e1 : lastI L = g L (L.length - 1) := if_neg (by omega)
    have e2 : isI L = true := decide_eq_true h0
    rw [e1, e2]
    have hx2 := hp.mem_iff.2 q1
    exact (most_any W gB S v l f bk hh (List.length_pos_of_mem hx2) (by rw [hp.length_eq]; exact hl)).mono fun r w' ⟨hB, t, ht, hr, hle⟩ => by
      rw [hh.most_eq hx2 (fun y hy => q2 y (hp.mem_iff.1 hy)) ht hle] at hr
      exact ⟨hr, hb.step hB, hB⟩
  · have e : L = [] := List.eq_nil_of_length_eq_zero (by omega)
    subst e
    exact (most_none W gB S v l f bk hh hp.eq_nil).mono fun r w' ⟨hr, hB⟩ => ⟨hr, hb.step hB, hB⟩
theorem least_theirsB (h : BothH w W gB gR L) (hl : L.length ≤ 100000) : Calls Try.prog 34 #[.pointer (some ⟨gR, 0, none⟩)] W fun r w' => r = .returned (itv (firstI L) (isI L)) ∧ BothH w w' gB gR L ∧ Below W.heap.size W w' := by
  have hb := h
  obtain ⟨blk, h1, h2, h3⟩ := h
  by_cases h0 : 0 < L.length
  · have e1 : firstI L = g L 0 := if_neg (by omega)
    have e2 : isI L = true := decide_eq_true h0
    rw [e1, e2]
    exact (refLeastI_any W gR L blk h2 h0 hl).mono fun r w' ⟨hr, hB⟩ => ⟨hr, hb.step hB, hB⟩
  · have e : L = [] := List.eq_nil_of_length_eq_zero (by omega)
    have e1 : firstI L = It.zero := if_pos (by omega)
    have e2 : isI L = false := decide_eq_false h0
    rw [e1, e2]
    exact (refLeast_none W gR L blk h2 e).mono fun r w' ⟨hr, hB⟩ => ⟨hr, hb.step hB, hB⟩
theorem most_theirsB (h : BothH w W gB gR L) (hl : L.length ≤ 100000) : Calls Try.prog 35 #[.pointer (some ⟨gR, 0, none⟩)] W fun r w' => r = .returned (itv (lastI L) (isI L)) ∧ BothH w w' gB gR L ∧ Below W.heap.size W w' := by
  have hb := h
  obtain ⟨blk, h1, h2, h3⟩ := h
  by_cases h0 : 0 < L.length
  · have e1 : lastI L = g L (L.length - 1) := if_neg (by omega)
    have e2 : isI L = true := decide_eq_true h0
    rw [e1, e2]
    exact (refMost_any W gR L blk h2 (L.length - 1) (by omega) hl).mono fun r w' ⟨hr, hB⟩ => ⟨hr, hb.step hB, hB⟩
  · have e : L = [] := List.eq_nil_of_length_eq_zero (by omega)
    have e1 : lastI L = It.zero := if_pos (by omega)
    have e2 : isI L = false := decide_eq_false h0
    rw [e1, e2]
    exact (refMost_none W gR L blk h2 e).mono fun r w' ⟨hr, hB⟩ => ⟨hr, hb.step hB, hB⟩
end
end Go.Proofs.Ytghmldfllieonaa
