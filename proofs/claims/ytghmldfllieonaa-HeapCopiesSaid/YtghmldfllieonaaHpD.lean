/- A copy of ours, and of the document's. Helper. -/
import Derived.Test.YtghmldfllieonaaHeapBox
import Derived.Test.YtghmldfllieonaaHeapPlaysWalk
import Derived.StillTailTactics
import Derived.BigQuiet
import Derived.Test.YtghmldfllieonaaHeapTypes
import Derived.Shelf.SlMaps.Clone
import Derived.OwnWalk
namespace Go.Proofs.Ytghmldfllieonaa.Fr
open Go.RowKit Go.Proofs.Ytghmldfllieonaa
set_option linter.unusedVariables false
set_option linter.unusedSimpArgs false
/-- From w on; V: what stays as it is in w0. -/
structure Fw where
  w : World
  V : Nat → Prop
  w0 : World
abbrev Fw.heap (f : Fw) := f.w.heap
def Fw.U (f : Fw) (gR : Nat) (blk : Option Nat) : Nat → Prop := fun k => RU gR blk k ∨ f.V k
def RefF (w : Fw) (W : World) (gR : Nat) (L : List It) (blk : Option Nat) : Prop :=
  RefH W gR L blk ∧ (¬ w.V gR ∧ ∀ g, blk = some g → ¬ w.V g) ∧ Chg (fun k => ¬ w.V k) w.w0 W
theorem chg_v {V : Nat → Prop} {w0 W W' : World} (h : Chg (fun k => ¬ V k) w0 W) (h' : Chg (fun k => ¬ V k) W W') : Chg (fun k => ¬ V k) w0 W' := h.trans h' fun i _ q => q
theorem RefF.new {w : Fw} {W W' : World} {gR : Nat} {L : List It} {blk : Option Nat} (h : RefF w W gR L blk) (hB : Below W.heap.size W W') : RefF w W' gR L blk :=
  ⟨h.1.new hB, h.2.1, chg_v h.2.2 (Chg.of_below hB (Nat.le_refl _) _)⟩
theorem RefF.lt {w : Fw} {W : World} {gR : Nat} {L : List It} {blk : Option Nat} (h : RefF w W gR L blk) : gR < W.heap.size ∧ ∀ g, blk = some g → g < W.heap.size := h.1.lt
/-- The document's turns. -/
theorem RefF.turn {w : Fw} {W W' : World} {gR gB : Nat} {L L' L2 : List It} {blk blk' : Option Nat} (h : RefF w W gR L blk) (h1 : HeapO (w.U gR blk) w.w W gB L2) (hc : Chg (fun j => j = gR) W W') (hf : ∀ g, blk' = some g → W.heap.size ≤ g) (h' : RefH W' gR L' blk') : RefF w W' gR L' blk' := by
  refine ⟨h', ⟨h.2.1.1, fun g hg hv => ?_⟩, chg_v h.2.2 (hc.mono fun i _ hi hv => h.2.1.1 (hi ▸ hv))⟩
  obtain ⟨S, v, f, bk, l, hp, hh, ht, hu, hn⟩ := h1
  have := hf g hg
  have := hu g (.inr hv)
  omega
/-- Both heaps. -/
def BothH (w : Fw) (W : World) (gB gR : Nat) (L : List It) : Prop :=
  ∃ blk, HeapO (w.U gR blk) w.w W gB L ∧ RefF w W gR L blk ∧ w.heap.size ≤ gR ∧ (∀ g, blk = some g → w.heap.size ≤ g) ∧ Srt L
theorem BothH.step {w : Fw} {W W' : World} {gB gR : Nat} {L : List It} (h : BothH w W gB gR L) (hB : Below W.heap.size W W') : BothH w W' gB gR L := by
  obtain ⟨blk, h1, h2, h3⟩ := h; exact ⟨blk, h1.step hB, h2.new hB, h3⟩
theorem BothH.plain {w : Fw} {W : World} {gB gR : Nat} {L : List It} (h : BothH w W gB gR L) : Ytghmldfllieonaa.BothH w.w W gB gR L := by
  obtain ⟨blk, h1, h2, h3⟩ := h
  exact ⟨blk, h1.weak fun k hk => .inl hk, h2.1, h3⟩
theorem BothH.ours {w : Fw} {W W' : World} {gB gR : Nat} {L L' : List It} {blk : Option Nat} (h : RefF w W gR L blk) (h2 : HeapO2 (w.U gR blk) w.w W W' gB L') : RefF w W' gR L blk :=
  ⟨h.1.chg h2.2 (fun hn => hn (.inl (.inl rfl))) (fun g hg hn => hn (.inl (.inr hg.symm))), h.2.1, chg_v h.2.2 (h2.2.mono fun i _ hi hv => hi (.inr hv))⟩
theorem BothH.refs {w : Fw} {W W' : World} {gB gR : Nat} {L L' : List It} {blk blk' : Option Nat} (h : HeapO (w.U gR blk) w.w W gB L) (hr : RefF w W gR L' blk) (hr' : ∃ L2, RefH W' gR L2 blk') (hC : Chg (fun j => j = gR) W W') (hf : ∀ g, blk' = some g → W.heap.size ≤ g) (h1 : w.heap.size ≤ gR) : HeapO (w.U gR blk') w.w W' gB L := by
  obtain ⟨L2, hr'⟩ := hr'
  obtain ⟨S, v, f, bk, l, hp, hh, ht, hu, hn⟩ := h
  have hlt := hh.lt
  refine ⟨S, v, f, bk, l, hp, hh.chg hC fun k hk e => (ht k hk).2 (.inl (.inl e)), fun k hk => ⟨(ht k hk).1, ?_⟩, ?_, Below.trans hn (hC.below (fun i _ hi => by subst hi; exact h1) hn.size)⟩
  · rintro ((e | e) | e)
    · exact (ht k hk).2 (.inl (.inl e))
    · have := hf k e.symm; have := hlt k hk; omega
    · exact (ht k hk).2 (.inr e)
  · rintro k ((e | e) | e)
    · subst e; exact hr'.lt.1
    · exact hr'.lt.2 k e.symm
    · exact Nat.lt_of_lt_of_le (hu k (.inr e)) hC.size
section
variable {w : Fw} {W W' : World} {gB gR : Nat} {L : List It}
def PutMid (w : Fw) (W : World) (gB gR : Nat) (L : List It) (e : It) (x : Int) : Prop :=
  (x = 7 ∧ (∃ y ∈ L, isN e.k.O e.n y) ∧ BothH w W gB gR L) ∨ (x = 5 ∧ (∀ y ∈ L, ¬ isN e.k.O e.n y) ∧ 1024 ≤ L.length ∧ BothH w W gB gR L) ∨
  (x = 0 ∧ (∀ y ∈ L, ¬ isN e.k.O e.n y) ∧ L.length < 1024 ∧ Srt L ∧ ∃ blk, HeapO (w.U gR blk) w.w W gB (L ++ [e]) ∧ RefF w W gR L blk ∧ w.heap.size ≤ gR ∧ ∀ g, blk = some g → w.heap.size ≤ g)
def DropMid (w : Fw) (W : World) (gB gR : Nat) (L : List It) (O N : Int) (x : It) (is : Bool) : Prop :=
  (is = false ∧ x = It.zero ∧ (∀ y ∈ L, ¬ isN O N y) ∧ BothH w W gB gR L) ∨
  (is = true ∧ x ∈ L ∧ isN O N x ∧ (∀ y ∈ L, isN O N y → y = x) ∧ Srt L ∧ ∃ blk, HeapO (w.U gR blk) w.w W gB (L.erase x) ∧ RefF w W gR L blk ∧ w.heap.size ≤ gR ∧ ∀ g, blk = some g → w.heap.size ≤ g)
def TakeMid (w : Fw) (W : World) (gB gR : Nat) (L : List It) (x : It) (is : Bool) : Prop :=
  (is = false ∧ x = It.zero ∧ L = [] ∧ BothH w W gB gR L) ∨
  (is = true ∧ 0 < L.length ∧ x = g L 0 ∧ (∀ y ∈ L, isN (g L 0).k.O (g L 0).n y → y = g L 0) ∧ Srt L ∧ ∃ blk, HeapO (w.U gR blk) w.w W gB (L.erase (g L 0)) ∧ RefF w W gR L blk ∧ w.heap.size ≤ gR ∧ ∀ g, blk = some g → w.heap.size ≤ g)
theorem PutMid.step {w : Fw} {W W' : World} {gB gR : Nat} {L : List It} {e : It} {x : Int} (h : PutMid w W gB gR L e x) (hB : Below W.heap.size W W') : PutMid w W' gB gR L e x := by
  rcases h with ⟨h1, h2, h3⟩ | ⟨h1, h2, h3, h4⟩ | ⟨h1, h2, h3, h4, blk, h5, h6, h7⟩
  · exact .inl ⟨h1, h2, h3.step hB⟩
  · exact .inr (.inl ⟨h1, h2, h3, h4.step hB⟩)
  · exact .inr (.inr ⟨h1, h2, h3, h4, blk, h5.step hB, h6.new hB, h7⟩)
theorem DropMid.step {w : Fw} {W W' : World} {gB gR : Nat} {L : List It} {O N : Int} {x : It} {is : Bool} (h : DropMid w W gB gR L O N x is) (hB : Below W.heap.size W W') : DropMid w W' gB gR L O N x is := by
  rcases h with ⟨h1, h2, h3, h4⟩ | ⟨h1, h2, h3, h4, h5, blk, h6, h7, h8⟩
  · exact .inl ⟨h1, h2, h3, h4.step hB⟩
  · exact .inr ⟨h1, h2, h3, h4, h5, blk, h6.step hB, h7.new hB, h8⟩
theorem TakeMid.step {w : Fw} {W W' : World} {gB gR : Nat} {L : List It} {x : It} {is : Bool} (h : TakeMid w W gB gR L x is) (hB : Below W.heap.size W W') : TakeMid w W' gB gR L x is := by
  rcases h with ⟨h1, h2, h3, h4⟩ | ⟨h1, h2, h3, h4, h5, blk, h6, h7, h8⟩
  · exact .inl ⟨h1, h2, h3, h4.step hB⟩
  · exact .inr ⟨h1, h2, h3, h4, h5, blk, h6.step hB, h7.new hB, h8⟩
theorem PutMid.nw {e : It} {x : Int} (h : PutMid w W gB gR L e x) : gR < W.heap.size := by
  rcases h with ⟨_, _, blk, _, h, _⟩ | ⟨_, _, _, blk, _, h, _⟩ | ⟨_, _, _, _, blk, _, h, _⟩ <;> exact h.lt.1
end
def BothB (w : Fw) (W : World) (gB gR : Nat) (L : List It) (gA : Nat) (t : TypeId) (cs : Array Value) : Prop :=
  ∃ blk, HeapO (fun k => w.U gR blk k ∨ k = gA) w.w W gB L ∧ RefF w W gR L blk ∧ w.heap.size ≤ gR ∧ (∀ g, blk = some g → w.heap.size ≤ g) ∧ Srt L ∧ gA ≠ gR ∧ Blk W gA t cs
section
variable {w : Fw} {W W' : World} {gB gR : Nat} {L : List It} {gA : Nat} {t : TypeId} {cs : Array Value}
theorem BothB.both (h : BothB w W gB gR L gA t cs) : BothH w W gB gR L := by
  obtain ⟨blk, h1, h2, h3, h4, h5, _⟩ := h
  exact ⟨blk, h1.weak fun k hk => .inl hk, h2, h3, h4, h5⟩
theorem BothB.blk (h : BothB w W gB gR L gA t cs) : Blk W gA t cs := by
  obtain ⟨blk, h1, h2, h3, h4, h5, h6, h7⟩ := h; exact h7
theorem BothB.ne (h : BothB w W gB gR L gA t cs) : gA ≠ gR := by
  obtain ⟨blk, h1, h2, h3, h4, h5, h6, h7⟩ := h; exact h6
theorem BothB.step (h : BothB w W gB gR L gA t cs) (hB : Below W.heap.size W W') : BothB w W' gB gR L gA t cs := by
  obtain ⟨blk, h1, h2, h3, h4, h5, h6, h7⟩ := h
  exact ⟨blk, h1.step hB, h2.new hB, h3, h4, h5, h6, h7.below hB h7.lt⟩
theorem BothB.drew (h : BothB w W gB gR L gA t cs) : BothB w W.drew gB gR L gA t cs := h.step (Below.refl _ _).drew
theorem PutMid.drew {e : It} {x : Int} (h : PutMid w W gB gR L e x) : PutMid w W.drew gB gR L e x := h.step (Below.refl _ _).drew
theorem BothH.drew (h : BothH w W gB gR L) : BothH w W.drew gB gR L := h.step (Below.refl _ _).drew
theorem BothH.boxed (h : BothH w W gB gR L) (t : TypeId) (cs : Array Value) : BothB w (W.alloc (.cells cs t)) gB gR L W.heap.size t cs := by
  obtain ⟨blk, h1, h2, h3, h4, h5⟩ := h
  have hr := h2.lt
  have hB : Below W.heap.size W (W.alloc (.cells cs t)) := (Below.refl _ W).alloc (Nat.le_refl _) _
  refine ⟨blk, h1.grow hB (fun k hk => ?_) (fun k hk => ?_), h2.new hB, h3, h4, h5, by omega, Blk.last _ _ _ rfl⟩
  · rcases hk with hk | rfl
    · exact .inl hk
    · exact .inr (Nat.le_refl _)
  · have hV : ∀ k, w.V k → k < W.heap.size := fun k hk => by
      obtain ⟨S, v, f, bk, l, hp, hh, ht, hu, hn⟩ := h1
      exact hu k (.inr hk)
    rcases hk with ((rfl | hk) | hk) | rfl
    · have := hr.1; simp; omega
    · have := hr.2 k hk.symm; simp; omega
    · have := hV k hk; simp; omega
    · simp
end
section
variable (w : Fw) (W : World) (gB gR : Nat) (L : List It) (gA : Nat) (t : TypeId) (cs : Array Value)
theorem put_mineB (e : It) (h : BothB w W gB gR L gA t cs) (he : WOk e) : Calls Try.prog 9 #[.pointer (some ⟨gB, 0, none⟩), .agg e.c.toArray] W fun r w' => ∃ x, r = .returned (.int .i64 x) ∧ PutMid w w' gB gR L e x ∧ Blk w' gA t cs := by
  obtain ⟨blk, h1, h2, h3, h4, h5, h6, h7⟩ := h
  have hs : ∀ k, w.U gR blk k → w.U gR blk k ∨ k = gA := fun k hk => .inl hk
  rcases em_name L e.k.O e.n with ⟨y, hy, hn⟩ | hn
  · exact (putTwice_in _ w.w W gB L e y h1 he hy hn.1 hn.2).mono fun r w' ⟨hr, ho⟩ => ⟨7, hr, .inl ⟨rfl, ⟨y, hy, hn⟩, blk, ho.1.weak hs, BothH.ours (L' := L) h2 (ho.weak hs), h3, h4, h5⟩, ho.keep h7 (.inr rfl)⟩
  · rcases Nat.lt_or_ge L.length 1024 with hl | hl
    · exact (put_in _ w.w W gB L e h1 he hn hl).mono fun r w' ⟨hr, ho⟩ => ⟨0, hr, .inr (.inr ⟨rfl, hn, hl, h5, blk, ho.1.weak hs, BothH.ours h2 (ho.weak hs), h3, h4⟩), ho.keep h7 (.inr rfl)⟩
    · exact (putFull_in _ w.w W gB L e h1 he hn hl).mono fun r w' ⟨hr, ho⟩ => ⟨5, hr, .inr (.inl ⟨rfl, hn, hl, blk, ho.1.weak hs, BothH.ours (L' := L) h2 (ho.weak hs), h3, h4, h5⟩), ho.keep h7 (.inr rfl)⟩
theorem put_theirs (e : It) (x : Int) (h : PutMid w W gB gR L e x) (hl : L.length ≤ 100000) : Calls Try.prog 10 #[.pointer (some ⟨gR, 0, none⟩), .agg e.c.toArray] W fun r w' => r = .returned (.int .i64 x) ∧ ∃ L', L'.length ≤ L.length + 1 ∧ BothH w w' gB gR L' := by
  rcases h with ⟨rfl, ⟨y, hy, hn⟩, hb⟩ | ⟨rfl, hn, hf, hb⟩ | ⟨rfl, hn, hf, hs, blk, h1, h2, h3, h4⟩
  · obtain ⟨blk, h1, h2, h3⟩ := hb
    exact (refPut_twice W gR L blk e h2.1 hl y hy hn).mono fun r w' ⟨hr, hB⟩ => ⟨hr, L, by omega, blk, h1.step hB, h2.new hB, h3⟩
  · obtain ⟨blk, h1, h2, h3⟩ := hb
    exact (refPut_full W gR L blk e h2.1 hl hn hf).mono fun r w' ⟨hr, hB⟩ => ⟨hr, L, by omega, blk, h1.step hB, h2.new hB, h3⟩
  · exact (refPut_any W gR L blk e h2.1 hn hf).mono fun r w' ⟨hr, a, blk', hi, h2', hc, hfr⟩ =>
      ⟨hr, insAt L e a, by rw [insAt_length L e a hi.1]; exact Nat.le_refl _, blk', (BothH.refs h1 h2 ⟨_, h2'⟩ hc hfr h3).perm (ins_perm L e a), h2.turn h1 hc hfr h2', h3, fun g hg => Nat.le_trans h1.nw.size (hfr g hg), ins_sorted hs hi hn⟩
theorem drop_mineB (O N : Int) (h : BothB w W gB gR L gA t cs) (hO : W64 O) (hN : W64 N) (hl : L.length ≤ 100000) : Calls Try.prog 11 #[.pointer (some ⟨gB, 0, none⟩), .int .i64 O, .int .i64 N] W fun r w' => ∃ x is, r = .returned (itv x is) ∧ DropMid w w' gB gR L O N x is ∧ Blk w' gA t cs := by
  obtain ⟨blk, h1, h2, h3, h4, h5, h6, h7⟩ := h
  have hs : ∀ k, w.U gR blk k → w.U gR blk k ∨ k = gA := fun k hk => .inl hk
  rcases em_name L O N with ⟨y, hy, hn⟩ | hn
  · have hu := Srt.uniq (h1.weak hs) hy
    obtain ⟨rfl, rfl⟩ := hn
    exact (drop_in _ w.w W gB L y h1 (h1.wf hy) hy hl).mono fun r w' ⟨hr, ho⟩ => ⟨y, true, hr, .inr ⟨rfl, hy, ⟨rfl, rfl⟩, hu, h5, blk, ho.1.weak hs, BothH.ours h2 (ho.weak hs), h3, h4⟩, ho.keep h7 (.inr rfl)⟩
  · exact (dropNo_in _ w.w W gB L O N h1 hO hN hn).mono fun r w' ⟨hr, ho⟩ => ⟨It.zero, false, hr, .inl ⟨rfl, rfl, hn, blk, ho.1.weak hs, BothH.ours (L' := L) h2 (ho.weak hs), h3, h4, h5⟩, ho.keep h7 (.inr rfl)⟩
theorem drop_theirsC (O N : Int) (x : It) (is : Bool) (h : DropMid w W gB gR L O N x is) (hl : L.length ≤ 100000) : Calls Try.prog 12 #[.pointer (some ⟨gR, 0, none⟩), .int .i64 O, .int .i64 N] W fun r w' => r = .returned (itv x is) ∧ (∃ L', L'.length ≤ L.length + 1 ∧ BothH w w' gB gR L') ∧ Chg (fun j => j = gR) W w' := by
  rcases h with ⟨rfl, rfl, hn, hb⟩ | ⟨rfl, hx, hn, hu, hs, blk, h1, h2, h3, h4⟩
  · obtain ⟨blk, h1, h2, h3⟩ := hb
    exact (refDrop_none W gR L blk O N h2.1 hl hn).mono fun r w' ⟨hr, hB⟩ => ⟨hr, ⟨L, by omega, blk, h1.step hB, h2.new hB, h3⟩, Chg.of_below hB (Nat.le_refl _) _⟩
  · exact (refDrop_any W gR L blk O N h2.1 hl x hx hn hu).mono fun r w' ⟨hr, k, blk', hk, hg, h2', hc, hfr⟩ =>
      ⟨hr, ⟨L.take k ++ L.drop (k + 1), by rw [List.length_append, List.length_take, List.length_drop]; omega, blk', (BothH.refs h1 h2 ⟨_, h2'⟩ hc hfr h3).perm (by rw [← hg]; exact drop_erase hk), h2.turn h1 hc hfr h2', h3, fun g hg => Nat.le_trans h1.nw.size (hfr g hg), drop_sorted hs k⟩, hc⟩
theorem take_mine (h : BothH w W gB gR L) (hl : L.length ≤ 100000) : Calls Try.prog 13 #[.pointer (some ⟨gB, 0, none⟩)] W fun r w' => ∃ x is, r = .returned (itv x is) ∧ TakeMid w w' gB gR L x is := by
  obtain ⟨blk, h1, h2, h3, h4, h5⟩ := h
  by_cases h0 : 0 < L.length
  · obtain ⟨r, e⟩ := srt_head h5 h0
    obtain ⟨q1, q2, _⟩ := h5.least e
    exact (take_in (w.U gR blk) w.w W gB L (g L 0) h1 q1 q2 hl).mono fun r w' ⟨hr, ho⟩ => ⟨_, true, hr, .inr ⟨rfl, h0, rfl, Srt.uniq h1 q1, h5, blk, ho.1, BothH.ours h2 ho, h3, h4⟩⟩
  · have e : L = [] := List.eq_nil_of_length_eq_zero (by omega)
    subst e
    exact (takeNo_in (w.U gR blk) w.w W gB h1).mono fun r w' ⟨hr, ho⟩ => ⟨_, false, hr, .inl ⟨rfl, rfl, rfl, blk, ho.1, BothH.ours (L' := []) h2 ho, h3, h4, h5⟩⟩
theorem take_theirsC (x : It) (is : Bool) (h : TakeMid w W gB gR L x is) (hl : L.length ≤ 100000) : Calls Try.prog 33 #[.pointer (some ⟨gR, 0, none⟩)] W fun r w' => r = .returned (itv x is) ∧ (∃ L', L'.length ≤ L.length + 1 ∧ BothH w w' gB gR L') ∧ Chg (fun j => j = gR) W w' := by
  rcases h with ⟨rfl, rfl, hL, hb⟩ | ⟨rfl, h0, rfl, hu, hs, blk, h1, h2, h3, h4⟩
  · obtain ⟨blk, h1, h2, h3⟩ := hb
    exact (refTake_none W gR L blk h2.1 hL).mono fun r w' ⟨hr, hB⟩ => ⟨hr, ⟨L, by omega, blk, h1.step hB, h2.new hB, h3⟩, Chg.of_below hB (Nat.le_refl _) _⟩
  · exact (refTake_any W gR L blk h2.1 h0 hl hu).mono fun r w' ⟨hr, k, blk', hk, hg, h2', hc, hfr⟩ =>
      ⟨hr, ⟨L.take k ++ L.drop (k + 1), by rw [List.length_append, List.length_take, List.length_drop]; omega, blk', (BothH.refs h1 h2 ⟨_, h2'⟩ hc hfr h3).perm (by rw [← hg]; exact drop_erase hk), h2.turn h1 hc hfr h2', h3, fun g hg => Nat.le_trans h1.nw.size (hfr g hg), drop_sorted hs k⟩, hc⟩
theorem DropMid.lt {W : World} {O N : Int} {x : It} {is : Bool} (h : DropMid w W gB gR L O N x is) : gR < W.heap.size := by
  rcases h with ⟨_, _, _, blk, _, h, _⟩ | ⟨_, _, _, _, _, blk, _, h, _⟩ <;> exact h.lt.1
theorem TakeMid.lt {W : World} {x : It} {is : Bool} (h : TakeMid w W gB gR L x is) : gR < W.heap.size := by
  rcases h with ⟨_, _, _, blk, _, h, _⟩ | ⟨_, _, _, _, _, blk, _, h, _⟩ <;> exact h.lt.1
theorem least_mineB (h : BothH w W gB gR L) (hl : L.length ≤ 100000) : Calls Try.prog 16 #[.pointer (some ⟨gB, 0, none⟩)] W fun r w' => r = .returned (itv (firstI L) (isI L)) ∧ BothH w w' gB gR L ∧ Below W.heap.size W w' := by
  have hb := h
  obtain ⟨blk, ⟨S, v, f, bk, l, hp, hh, ht, hu, hn⟩, h2, h3, h4, h5⟩ := h
  by_cases h0 : 0 < L.length
  · obtain ⟨r, e⟩ := srt_head h5 h0
    obtain ⟨q1, q2, _⟩ := h5.least e
    have e1 : firstI L = g L 0 := if_neg (by omega)
    have e2 : isI L = true := decide_eq_true h0
    rw [e1, e2]
    have hx2 := hp.mem_iff.2 q1
    have he := hh.least_eq hx2 fun y hy => q2 y (hp.mem_iff.1 hy)
    have := leastI_any W gB S v l f bk hh (List.length_pos_of_mem hx2) (by rw [hp.length_eq]; exact hl)
    rw [he] at this
    exact this.mono fun r w' ⟨hr, hB⟩ => ⟨hr, hb.step hB, hB⟩
  · have e : L = [] := List.eq_nil_of_length_eq_zero (by omega)
    subst e
    exact (least_none W gB S v l f bk hh hp.eq_nil).mono fun r w' ⟨hr, hB⟩ => ⟨hr, hb.step hB, hB⟩
theorem most_mineB (h : BothH w W gB gR L) (hl : L.length ≤ 100000) : Calls Try.prog 17 #[.pointer (some ⟨gB, 0, none⟩)] W fun r w' => r = .returned (itv (lastI L) (isI L)) ∧ BothH w w' gB gR L ∧ Below W.heap.size W w' := by
  have hb := h
  obtain ⟨blk, ⟨S, v, f, bk, l, hp, hh, ht, hu, hn⟩, h2, h3, h4, h5⟩ := h
  by_cases h0 : 0 < L.length
  · obtain ⟨q1, q2⟩ := srt_last h5 h0
    have e1 : lastI L = g L (L.length - 1) := if_neg (by omega)
    have e2 : isI L = true := decide_eq_true h0
    rw [e1, e2]
    have hx2 := hp.mem_iff.2 q1
    exact (most_any W gB S v l f bk hh (List.length_pos_of_mem hx2) (by rw [hp.length_eq]; exact hl)).mono fun r w' ⟨hB, t, ht, hr, hle⟩ => by
      rw [hh.most_eq hx2 (fun y hy => q2 y (hp.mem_iff.1 hy)) ht hle] at hr
      exact ⟨hr, hb.step hB, hB⟩
  · have e : L = [] := List.eq_nil_of_length_eq_zero (by omega)
    subst e
    exact (most_none W gB S v l f bk hh hp.eq_nil).mono fun r w' ⟨hr, hB⟩ => ⟨hr, hb.step hB, hB⟩
theorem least_theirsB (h : BothH w W gB gR L) (hl : L.length ≤ 100000) : Calls Try.prog 34 #[.pointer (some ⟨gR, 0, none⟩)] W fun r w' => r = .returned (itv (firstI L) (isI L)) ∧ BothH w w' gB gR L ∧ Below W.heap.size W w' := by
  have hb := h
  obtain ⟨blk, h1, h2, h3⟩ := h
  by_cases h0 : 0 < L.length
  · have e1 : firstI L = g L 0 := if_neg (by omega)
    have e2 : isI L = true := decide_eq_true h0
    rw [e1, e2]
    exact (refLeastI_any W gR L blk h2.1 h0 hl).mono fun r w' ⟨hr, hB⟩ => ⟨hr, hb.step hB, hB⟩
  · have e : L = [] := List.eq_nil_of_length_eq_zero (by omega)
    have e1 : firstI L = It.zero := if_pos (by omega)
    have e2 : isI L = false := decide_eq_false h0
    rw [e1, e2]
    exact (refLeast_none W gR L blk h2.1 e).mono fun r w' ⟨hr, hB⟩ => ⟨hr, hb.step hB, hB⟩
theorem most_theirsB (h : BothH w W gB gR L) (hl : L.length ≤ 100000) : Calls Try.prog 35 #[.pointer (some ⟨gR, 0, none⟩)] W fun r w' => r = .returned (itv (lastI L) (isI L)) ∧ BothH w w' gB gR L ∧ Below W.heap.size W w' := by
  have hb := h
  obtain ⟨blk, h1, h2, h3⟩ := h
  by_cases h0 : 0 < L.length
  · have e1 : lastI L = g L (L.length - 1) := if_neg (by omega)
    have e2 : isI L = true := decide_eq_true h0
    rw [e1, e2]
    exact (refMost_any W gR L blk h2.1 (L.length - 1) (by omega) hl).mono fun r w' ⟨hr, hB⟩ => ⟨hr, hb.step hB, hB⟩
  · have e : L = [] := List.eq_nil_of_length_eq_zero (by omega)
    have e1 : lastI L = It.zero := if_pos (by omega)
    have e2 : isI L = false := decide_eq_false h0
    rw [e1, e2]
    exact (refMost_none W gR L blk h2.1 e).mono fun r w' ⟨hr, hB⟩ => ⟨hr, hb.step hB, hB⟩
theorem has_mine (O N : Int) (h : BothH w W gB gR L) (hO : W64 O) (hN : W64 N) : Calls Try.prog 25 #[.pointer (some ⟨gB, 0, none⟩), .int .i64 O, .int .i64 N] W fun r w' => ∃ b : Bool, r = .returned (.bool b) ∧ (b = true ↔ hasN L O N) ∧ w' = W := by
  obtain ⟨blk, ⟨S, v, f, blk2, l, hp, hh, ht, hu, hn⟩, h2, h3, h4, h5⟩ := h
  refine (has_any W gB S v l f blk2 hh O N hO hN).mono fun r w' ⟨hr, hw⟩ => ⟨_, hr, ?_, hw⟩
  constructor
  · intro hb
    obtain ⟨i, hi⟩ := Option.isSome_iff_exists.1 hb
    obtain ⟨q1, q2, q3⟩ := hh.nm.2 O N i hi
    exact ⟨g l i, hp.mem_iff.1 (g_mem q1), q2, q3⟩
  · rintro ⟨y, hy, hO', hN'⟩
    obtain ⟨i, q1, _⟩ := hh.nm.some (hp.mem_iff.2 hy)
    rw [hO', hN'] at q1
    rw [q1]; rfl
theorem of_theirs (O N : Int) (h : BothH w W gB gR L) (hl : L.length ≤ 100000) : Calls Try.prog 28 #[.pointer (some ⟨gR, 0, none⟩), .int .i64 O, .int .i64 N] W fun r w' => ∃ x : Int, r = .returned (.int .i64 x) ∧ (0 ≤ x ↔ hasN L O N) ∧ w' = W := by
  obtain ⟨blk, h1, h2, h3⟩ := h
  refine (refOf_any W gR L blk h2.1 O N hl).mono fun r w' ⟨x, hr, ho, hw⟩ => ⟨x, hr, ?_, hw⟩
  rcases ho with ⟨rfl, hno⟩ | ⟨i, hi, rfl, hn⟩
  · constructor
    · intro h; omega
    · rintro ⟨y, hy, hyn⟩; exact absurd hyn (hno y hy)
  · constructor
    · intro _; exact ⟨g L i, g_mem hi, hn⟩
    · intro _; omega
theorem list_mine (most : Int) (h : BothH w W gB gR L) (hl : L.length ≤ 100000) : Calls Try.prog 36 #[.pointer (some ⟨gB, 0, none⟩), .int .i64 most] W fun r w' => ∃ A c, r = .returned (.tuple #[.slice A (kN most L.length) c, .bool true]) ∧ Rd w' A (rowsI (L.take (kN most L.length))) ∧ BothH w w' gB gR L ∧ Nw W w' := by
  have hb := h
  obtain ⟨blk, ⟨S, v, f, blk2, l, hp, hh, ht, hu, hn⟩, h2, h3, h4, h5⟩ := h
  refine (list_any W gB S v l f blk2 most hh (by rw [hp.length_eq]; exact hl)).mono fun r w' ⟨v', L', hr, hp', ho, hrow, hN⟩ => ?_
  have e : L' = L := lists_eq hh.nm hp h5 hp' ho
  rw [e] at hrow
  obtain ⟨hlen, hc⟩ := hrow
  rcases hc with ⟨rfl, h0⟩ | ⟨b, c, cur, rfl, q1, q2, q3, q4, q5, q6⟩
  · refine ⟨none, 0, by rw [hr, h0], .inl ?_, hb.step hN, hN⟩
    rw [h0]; simp [rowsI]
  · refine ⟨_, c, hr, .inr ⟨b, 0, rfl, fun j u hu' => ?_⟩, hb.step hN, hN⟩
    have hbk : Blk w' b 36 cur := q2
    rw [hbk.cell, Nat.zero_add, ← hu', ← q6, ← Array.getElem?_toList]
    rw [List.getElem?_take]
    split
    · rfl
    · rename_i hj
      rw [← q6, List.getElem?_take, if_neg hj] at hu'
      cases hu'
theorem len_mine (h : BothH w W gB gR L) : Calls Try.prog 18 #[.pointer (some ⟨gB, 0, none⟩)] W fun e w' => e = .returned (.int .i64 (L.length : Int)) ∧ w' = W := by
  obtain ⟨blk, h1, _⟩ := h
  exact len_in _ w.w W gB L h1
theorem refs_list (h : BothH w W gB gR L) : ∃ A c, W.cell? ⟨gR, 0, none⟩ = some (.slice A L.length c) ∧ Rd W A (rowsI L) ∧ L.length ≤ c := by
  obtain ⟨blk, _, ⟨⟨A, c, hb, ho⟩, _⟩, _⟩ := h
  obtain ⟨A', c', e, hr, hc, _⟩ := ho.rd
  injection e with e1 _ e3
  subst e1 e3
  exact ⟨A, c, (hb.cell 0).trans rfl, hr, hc⟩
end
end Go.Proofs.Ytghmldfllieonaa.Fr
/- The law's do: Put and what is no act. Helper. -/
namespace Go.Proofs.Ytghmldfllieonaa.Fr
open Go.RowKit Go.Proofs.Ytghmldfllieonaa
set_option linter.unusedVariables false
set_option linter.unusedSimpArgs false
set_option maxRecDepth 100000
set_option maxHeartbeats 6400000
theorem do_0 (w : Fw) (W : World) (gB gR : Nat) (L : List It) (x : It) (n : Int) (K : Int) (hK : ∀ j : Int, 1 ≤ j ∧ j ≤ 6 → ¬ K = j) (h : BothH w W gB gR L) (hx : WOk x) (hl : L.length ≤ 1000) : Calls Try.prog 19 #[.pointer (some ⟨gB, 0, none⟩), .pointer (some ⟨gR, 0, none⟩), .agg #[.int .i64 K, .int .i64 x.k.T, .int .i64 x.k.O, .int .i64 x.k.S, .int .i64 x.p, .int .i64 x.q, .int .i64 x.d, .int .i64 x.n, .int .i64 n]] W fun r w' => r = .returned (.bool true) ∧ ∃ L', L'.length ≤ L.length + 1 ∧ BothH w w' gB gR L' := by
  have HL := Lib.hid hl
  have HWX := Lib.hid hx
  obtain ⟨gA, hgA⟩ : ∃ gA, W.heap.size = gA := ⟨_, rfl⟩
  obtain ⟨wA, hwA⟩ : ∃ wA, W.alloc (.cells #[.int .i64 K, .int .i64 x.k.T, .int .i64 x.k.O, .int .i64 x.k.S, .int .i64 x.p, .int .i64 x.q, .int .i64 x.d, .int .i64 x.n, .int .i64 n] 49) = wA := ⟨_, rfl⟩
  have hb := h.boxed 49 #[.int .i64 K, .int .i64 x.k.T, .int .i64 x.k.O, .int .i64 x.k.S, .int .i64 x.p, .int .i64 x.q, .int .i64 x.d, .int .i64 x.n, .int .i64 n]
  rw [hwA, hgA] at hb
  have HW := Lib.hid (And.intro hgA hwA)
  have HB := Lib.hid hb
  have hbk := hb.blk
  have a0 : wA.cell? ⟨gA, 0, none⟩ = some (.int .i64 K) := (hbk.cell 0).trans rfl
  have a1 : wA.cell? ⟨gA, 1, none⟩ = some (.int .i64 x.k.T) := (hbk.cell 1).trans rfl
  have a2 : wA.cell? ⟨gA, 2, none⟩ = some (.int .i64 x.k.O) := (hbk.cell 2).trans rfl
  have a3 : wA.cell? ⟨gA, 3, none⟩ = some (.int .i64 x.k.S) := (hbk.cell 3).trans rfl
  have a4 : wA.cell? ⟨gA, 4, none⟩ = some (.int .i64 x.p) := (hbk.cell 4).trans rfl
  have a5 : wA.cell? ⟨gA, 5, none⟩ = some (.int .i64 x.q) := (hbk.cell 5).trans rfl
  have a6 : wA.cell? ⟨gA, 6, none⟩ = some (.int .i64 x.d) := (hbk.cell 6).trans rfl
  have a7 : wA.cell? ⟨gA, 7, none⟩ = some (.int .i64 x.n) := (hbk.cell 7).trans rfl
  have a8 : wA.cell? ⟨gA, 8, none⟩ = some (.int .i64 n) := (hbk.cell 8).trans rfl
  clear h hl hx hb hbk hgA hwA
  go_enter Try.func19, Try.ntmps19
  go_upto_region 1 with (fail)
  rw [HW.out.2, HW.out.1]
  have i1 : ¬ K = 1 := hK 1 (by omega)
  have i2 : ¬ K = 2 := hK 2 (by omega)
  have i3 : ¬ K = 3 := hK 3 (by omega)
  have i4 : ¬ K = 4 := hK 4 (by omega)
  have i5 : ¬ K = 5 := hK 5 (by omega)
  have i6 : ¬ K = 6 := hK 6 (by omega)
  clear hK
  go_wp2_with fail
  go_ret
  exact ⟨rfl, L, by omega, HB.out.both⟩
theorem do_1 (w : Fw) (W : World) (gB gR : Nat) (L : List It) (x : It) (n : Int) (h : BothH w W gB gR L) (hx : WOk x) (hl : L.length ≤ 1000) : Calls Try.prog 19 #[.pointer (some ⟨gB, 0, none⟩), .pointer (some ⟨gR, 0, none⟩), .agg #[.int .i64 1, .int .i64 x.k.T, .int .i64 x.k.O, .int .i64 x.k.S, .int .i64 x.p, .int .i64 x.q, .int .i64 x.d, .int .i64 x.n, .int .i64 n]] W fun r w' => r = .returned (.bool true) ∧ ∃ L', L'.length ≤ L.length + 1 ∧ BothH w w' gB gR L' := by
  have HL := Lib.hid hl
  have HWX := Lib.hid hx
  obtain ⟨gA, hgA⟩ : ∃ gA, W.heap.size = gA := ⟨_, rfl⟩
  obtain ⟨wA, hwA⟩ : ∃ wA, W.alloc (.cells #[.int .i64 1, .int .i64 x.k.T, .int .i64 x.k.O, .int .i64 x.k.S, .int .i64 x.p, .int .i64 x.q, .int .i64 x.d, .int .i64 x.n, .int .i64 n] 49) = wA := ⟨_, rfl⟩
  have hb := h.boxed 49 #[.int .i64 1, .int .i64 x.k.T, .int .i64 x.k.O, .int .i64 x.k.S, .int .i64 x.p, .int .i64 x.q, .int .i64 x.d, .int .i64 x.n, .int .i64 n]
  rw [hwA, hgA] at hb
  have HW := Lib.hid (And.intro hgA hwA)
  have HB := Lib.hid hb
  have hbk := hb.blk
  have a0 : wA.cell? ⟨gA, 0, none⟩ = some (.int .i64 1) := (hbk.cell 0).trans rfl
  have a1 : wA.cell? ⟨gA, 1, none⟩ = some (.int .i64 x.k.T) := (hbk.cell 1).trans rfl
  have a2 : wA.cell? ⟨gA, 2, none⟩ = some (.int .i64 x.k.O) := (hbk.cell 2).trans rfl
  have a3 : wA.cell? ⟨gA, 3, none⟩ = some (.int .i64 x.k.S) := (hbk.cell 3).trans rfl
  have a4 : wA.cell? ⟨gA, 4, none⟩ = some (.int .i64 x.p) := (hbk.cell 4).trans rfl
  have a5 : wA.cell? ⟨gA, 5, none⟩ = some (.int .i64 x.q) := (hbk.cell 5).trans rfl
  have a6 : wA.cell? ⟨gA, 6, none⟩ = some (.int .i64 x.d) := (hbk.cell 6).trans rfl
  have a7 : wA.cell? ⟨gA, 7, none⟩ = some (.int .i64 x.n) := (hbk.cell 7).trans rfl
  have a8 : wA.cell? ⟨gA, 8, none⟩ = some (.int .i64 n) := (hbk.cell 8).trans rfl
  clear h hl hx hb hbk hgA hwA
  go_enter Try.func19, Try.ntmps19
  go_upto_region 1 with (fail)
  rw [HW.out.2, HW.out.1]
  have KP1 := Lib.hid (fun W2 (h : BothB w W2 gB gR L gA 49 #[.int .i64 1, .int .i64 x.k.T, .int .i64 x.k.O, .int .i64 x.k.S, .int .i64 x.p, .int .i64 x.q, .int .i64 x.d, .int .i64 x.n, .int .i64 n]) => put_mineB w W2 gB gR L gA 49 #[.int .i64 1, .int .i64 x.k.T, .int .i64 x.k.O, .int .i64 x.k.S, .int .i64 x.p, .int .i64 x.q, .int .i64 x.d, .int .i64 x.n, .int .i64 n] x h HWX.out)
  have KP2 := Lib.hid (fun W2 y (h : PutMid w W2 gB gR L x y) => put_theirs w W2 gB gR L x y h (by have := HL.out; omega))
  go_wp2_with fail
  go_region_with (first
    | (go_at_call 9; refine (KP1.out _ (by repeat (first | exact HB.out | refine BothB.drew ?_))).mono ?_; rintro r w2 ⟨y, rfl, h2, hb2⟩; have H2 := Lib.hid h2; have a1 : w2.cell? ⟨gA, 1, none⟩ = some (.int .i64 x.k.T) := (hb2.cell 1).trans rfl; have a2 : w2.cell? ⟨gA, 2, none⟩ = some (.int .i64 x.k.O) := (hb2.cell 2).trans rfl; have a3 : w2.cell? ⟨gA, 3, none⟩ = some (.int .i64 x.k.S) := (hb2.cell 3).trans rfl; have a4 : w2.cell? ⟨gA, 4, none⟩ = some (.int .i64 x.p) := (hb2.cell 4).trans rfl; have a5 : w2.cell? ⟨gA, 5, none⟩ = some (.int .i64 x.q) := (hb2.cell 5).trans rfl; have a6 : w2.cell? ⟨gA, 6, none⟩ = some (.int .i64 x.d) := (hb2.cell 6).trans rfl; have a7 : w2.cell? ⟨gA, 7, none⟩ = some (.int .i64 x.n) := (hb2.cell 7).trans rfl; clear h2 hb2)
    | (go_at_call 10; refine (KP2.out _ y (by repeat (first | exact H2.out | refine PutMid.drew ?_))).mono ?_; rintro r w3 ⟨rfl, h3⟩; have H3 := Lib.hid h3; clear h3))
  all_goals
    go_wp2_with fail
    go_ret
    exact ⟨rfl, by obtain ⟨L', q1, q2⟩ := H3.out; exact ⟨L', q1, by repeat (first | exact q2 | refine BothH.drew ?_)⟩⟩
end Go.Proofs.Ytghmldfllieonaa.Fr
/- The law's do: Take and Drop. Helper. -/
namespace Go.Proofs.Ytghmldfllieonaa.Fr
open Go.RowKit Go.Proofs.Ytghmldfllieonaa
set_option linter.unusedVariables false
set_option linter.unusedSimpArgs false
set_option maxRecDepth 100000
set_option maxHeartbeats 6400000
theorem do_2 (w : Fw) (W : World) (gB gR : Nat) (L : List It) (x : It) (n : Int) (h : BothH w W gB gR L) (hx : WOk x) (hl : L.length ≤ 1000) : Calls Try.prog 19 #[.pointer (some ⟨gB, 0, none⟩), .pointer (some ⟨gR, 0, none⟩), .agg #[.int .i64 2, .int .i64 x.k.T, .int .i64 x.k.O, .int .i64 x.k.S, .int .i64 x.p, .int .i64 x.q, .int .i64 x.d, .int .i64 x.n, .int .i64 n]] W fun r w' => r = .returned (.bool true) ∧ ∃ L', L'.length ≤ L.length + 1 ∧ BothH w w' gB gR L' := by
  have HL := Lib.hid hl
  have HWX := Lib.hid hx
  obtain ⟨gA, hgA⟩ : ∃ gA, W.heap.size = gA := ⟨_, rfl⟩
  obtain ⟨wA, hwA⟩ : ∃ wA, W.alloc (.cells #[.int .i64 2, .int .i64 x.k.T, .int .i64 x.k.O, .int .i64 x.k.S, .int .i64 x.p, .int .i64 x.q, .int .i64 x.d, .int .i64 x.n, .int .i64 n] 49) = wA := ⟨_, rfl⟩
  have hb := h.boxed 49 #[.int .i64 2, .int .i64 x.k.T, .int .i64 x.k.O, .int .i64 x.k.S, .int .i64 x.p, .int .i64 x.q, .int .i64 x.d, .int .i64 x.n, .int .i64 n]
  rw [hwA, hgA] at hb
  have HW := Lib.hid (And.intro hgA hwA)
  have HB := Lib.hid hb
  have hbk := hb.blk
  have a0 : wA.cell? ⟨gA, 0, none⟩ = some (.int .i64 2) := (hbk.cell 0).trans rfl
  have a1 : wA.cell? ⟨gA, 1, none⟩ = some (.int .i64 x.k.T) := (hbk.cell 1).trans rfl
  have a2 : wA.cell? ⟨gA, 2, none⟩ = some (.int .i64 x.k.O) := (hbk.cell 2).trans rfl
  have a3 : wA.cell? ⟨gA, 3, none⟩ = some (.int .i64 x.k.S) := (hbk.cell 3).trans rfl
  have a4 : wA.cell? ⟨gA, 4, none⟩ = some (.int .i64 x.p) := (hbk.cell 4).trans rfl
  have a5 : wA.cell? ⟨gA, 5, none⟩ = some (.int .i64 x.q) := (hbk.cell 5).trans rfl
  have a6 : wA.cell? ⟨gA, 6, none⟩ = some (.int .i64 x.d) := (hbk.cell 6).trans rfl
  have a7 : wA.cell? ⟨gA, 7, none⟩ = some (.int .i64 x.n) := (hbk.cell 7).trans rfl
  have a8 : wA.cell? ⟨gA, 8, none⟩ = some (.int .i64 n) := (hbk.cell 8).trans rfl
  clear h hl hx hb hbk hgA hwA
  go_enter Try.func19, Try.ntmps19
  go_upto_region 1 with (fail)
  rw [HW.out.2, HW.out.1]
  go_wp2_with fail
  refine (take_mine w wA gB gR L HB.out.both (by have := HL.out; omega)).mono ?_
  rintro r w2 ⟨y, is, rfl, h2⟩
  have H2 := Lib.hid h2
  clear h2 a0 a1 a2 a3 a4 a5 a6 a7 a8
  rw [(by rfl : itv y is = .tuple #[.agg #[.int .i64 y.k.T, .int .i64 y.k.O, .int .i64 y.k.S, .int .i64 y.p, .int .i64 y.q, .int .i64 y.d, .int .i64 y.n], .bool is])]
  obtain ⟨gX, hgX⟩ : ∃ gX, w2.heap.size = gX := ⟨_, rfl⟩
  obtain ⟨w3, hw3⟩ : ∃ w3, w2.alloc (.cells #[.int .i64 y.k.T, .int .i64 y.k.O, .int .i64 y.k.S, .int .i64 y.p, .int .i64 y.q, .int .i64 y.d, .int .i64 y.n] 36) = w3 := ⟨_, rfl⟩
  have HX3 := Lib.hid (And.intro hgX hw3)
  have HB3 := Lib.hid (show Below w2.heap.size w2 w3 ∧ Blk w3 gX 36 y.c.toArray by
    rw [← hw3]
    exact ⟨(Below.refl _ w2).alloc (Nat.le_refl _) _, Blk.last w2 _ _ hgX⟩)
  clear hgX hw3
  go_upto_region 6 with (fail)
  rw [HX3.out.2, HX3.out.1]
  go_wp2_with fail
  refine (take_theirsC w w3 gB gR L y is (H2.out.step HB3.out.1) (by have := HL.out; omega)).mono ?_
  rintro r w4 ⟨rfl, h4, hc4⟩
  have H4 := Lib.hid h4
  have hne : gX ≠ gR := by have := H2.out.lt; have := HX3.out.1; omega
  have HX4 := Lib.hid (show Blk w4 gX 36 y.c.toArray from HB3.out.2.chg hc4 hne)
  clear h4 hc4 hne 
  rw [(by rfl : itv y is = .tuple #[.agg #[.int .i64 y.k.T, .int .i64 y.k.O, .int .i64 y.k.S, .int .i64 y.p, .int .i64 y.q, .int .i64 y.d, .int .i64 y.n], .bool is])]
  obtain ⟨gY, hgY⟩ : ∃ gY, w4.heap.size = gY := ⟨_, rfl⟩
  obtain ⟨w5, hw5⟩ : ∃ w5, w4.alloc (.cells #[.int .i64 y.k.T, .int .i64 y.k.O, .int .i64 y.k.S, .int .i64 y.p, .int .i64 y.q, .int .i64 y.d, .int .i64 y.n] 36) = w5 := ⟨_, rfl⟩
  have HX5 := Lib.hid (And.intro hgY hw5)
  have HB5 := Lib.hid (show Below w4.heap.size w4 w5 ∧ Blk w5 gY 36 y.c.toArray by
    rw [← hw5]
    exact ⟨(Below.refl _ w4).alloc (Nat.le_refl _) _, Blk.last w4 _ _ hgY⟩)
  clear hgY hw5
  go_upto_region 7 with (fail)
  rw [HX5.out.2, HX5.out.1]
  have hx5 := HX4.out.below HB5.out.1 HX4.out.lt
  have hy5 := HB5.out.2
  have u0 : w5.cell? ⟨gX, 0, none⟩ = some (.int .i64 y.k.T) := (hx5.cell 0).trans rfl
  have u1 : w5.cell? ⟨gX, 1, none⟩ = some (.int .i64 y.k.O) := (hx5.cell 1).trans rfl
  have u2 : w5.cell? ⟨gX, 2, none⟩ = some (.int .i64 y.k.S) := (hx5.cell 2).trans rfl
  have u3 : w5.cell? ⟨gX, 3, none⟩ = some (.int .i64 y.p) := (hx5.cell 3).trans rfl
  have u4 : w5.cell? ⟨gX, 4, none⟩ = some (.int .i64 y.q) := (hx5.cell 4).trans rfl
  have u5 : w5.cell? ⟨gX, 5, none⟩ = some (.int .i64 y.d) := (hx5.cell 5).trans rfl
  have u6 : w5.cell? ⟨gX, 6, none⟩ = some (.int .i64 y.n) := (hx5.cell 6).trans rfl
  have v0 : w5.cell? ⟨gY, 0, none⟩ = some (.int .i64 y.k.T) := (hy5.cell 0).trans rfl
  have v1 : w5.cell? ⟨gY, 1, none⟩ = some (.int .i64 y.k.O) := (hy5.cell 1).trans rfl
  have v2 : w5.cell? ⟨gY, 2, none⟩ = some (.int .i64 y.k.S) := (hy5.cell 2).trans rfl
  have v3 : w5.cell? ⟨gY, 3, none⟩ = some (.int .i64 y.p) := (hy5.cell 3).trans rfl
  have v4 : w5.cell? ⟨gY, 4, none⟩ = some (.int .i64 y.q) := (hy5.cell 4).trans rfl
  have v5 : w5.cell? ⟨gY, 5, none⟩ = some (.int .i64 y.d) := (hy5.cell 5).trans rfl
  have v6 : w5.cell? ⟨gY, 6, none⟩ = some (.int .i64 y.n) := (hy5.cell 6).trans rfl
  clear hx5 hy5
  go_wp2_with fail
  go_ret
  exact ⟨rfl, by obtain ⟨L', q1, q2⟩ := H4.out; exact ⟨L', q1, q2.step HB5.out.1⟩⟩
theorem do_3 (w : Fw) (W : World) (gB gR : Nat) (L : List It) (x : It) (n : Int) (h : BothH w W gB gR L) (hx : WOk x) (hl : L.length ≤ 1000) : Calls Try.prog 19 #[.pointer (some ⟨gB, 0, none⟩), .pointer (some ⟨gR, 0, none⟩), .agg #[.int .i64 3, .int .i64 x.k.T, .int .i64 x.k.O, .int .i64 x.k.S, .int .i64 x.p, .int .i64 x.q, .int .i64 x.d, .int .i64 x.n, .int .i64 n]] W fun r w' => r = .returned (.bool true) ∧ ∃ L', L'.length ≤ L.length + 1 ∧ BothH w w' gB gR L' := by
  have HL := Lib.hid hl
  have HWX := Lib.hid hx
  obtain ⟨gA, hgA⟩ : ∃ gA, W.heap.size = gA := ⟨_, rfl⟩
  obtain ⟨wA, hwA⟩ : ∃ wA, W.alloc (.cells #[.int .i64 3, .int .i64 x.k.T, .int .i64 x.k.O, .int .i64 x.k.S, .int .i64 x.p, .int .i64 x.q, .int .i64 x.d, .int .i64 x.n, .int .i64 n] 49) = wA := ⟨_, rfl⟩
  have hb := h.boxed 49 #[.int .i64 3, .int .i64 x.k.T, .int .i64 x.k.O, .int .i64 x.k.S, .int .i64 x.p, .int .i64 x.q, .int .i64 x.d, .int .i64 x.n, .int .i64 n]
  rw [hwA, hgA] at hb
  have HW := Lib.hid (And.intro hgA hwA)
  have HB := Lib.hid hb
  have hbk := hb.blk
  have a0 : wA.cell? ⟨gA, 0, none⟩ = some (.int .i64 3) := (hbk.cell 0).trans rfl
  have a1 : wA.cell? ⟨gA, 1, none⟩ = some (.int .i64 x.k.T) := (hbk.cell 1).trans rfl
  have a2 : wA.cell? ⟨gA, 2, none⟩ = some (.int .i64 x.k.O) := (hbk.cell 2).trans rfl
  have a3 : wA.cell? ⟨gA, 3, none⟩ = some (.int .i64 x.k.S) := (hbk.cell 3).trans rfl
  have a4 : wA.cell? ⟨gA, 4, none⟩ = some (.int .i64 x.p) := (hbk.cell 4).trans rfl
  have a5 : wA.cell? ⟨gA, 5, none⟩ = some (.int .i64 x.q) := (hbk.cell 5).trans rfl
  have a6 : wA.cell? ⟨gA, 6, none⟩ = some (.int .i64 x.d) := (hbk.cell 6).trans rfl
  have a7 : wA.cell? ⟨gA, 7, none⟩ = some (.int .i64 x.n) := (hbk.cell 7).trans rfl
  have a8 : wA.cell? ⟨gA, 8, none⟩ = some (.int .i64 n) := (hbk.cell 8).trans rfl
  clear h hl hx hb hbk hgA hwA
  go_enter Try.func19, Try.ntmps19
  go_upto_region 1 with (fail)
  rw [HW.out.2, HW.out.1]
  go_wp2_with fail
  refine (drop_mineB w wA gB gR L gA 49 #[.int .i64 3, .int .i64 x.k.T, .int .i64 x.k.O, .int .i64 x.k.S, .int .i64 x.p, .int .i64 x.q, .int .i64 x.d, .int .i64 x.n, .int .i64 n] x.k.O x.n HB.out HWX.out.1 HWX.out.2 (by have := HL.out; omega)).mono ?_
  rintro r w2 ⟨y, is, rfl, h2, hb2⟩
  have H2 := Lib.hid h2
  have HB2 := Lib.hid hb2
  clear h2 hb2 a0 a1 a2 a3 a4 a5 a6 a7 a8
  rw [(by rfl : itv y is = .tuple #[.agg #[.int .i64 y.k.T, .int .i64 y.k.O, .int .i64 y.k.S, .int .i64 y.p, .int .i64 y.q, .int .i64 y.d, .int .i64 y.n], .bool is])]
  obtain ⟨gX, hgX⟩ : ∃ gX, w2.heap.size = gX := ⟨_, rfl⟩
  obtain ⟨w3, hw3⟩ : ∃ w3, w2.alloc (.cells #[.int .i64 y.k.T, .int .i64 y.k.O, .int .i64 y.k.S, .int .i64 y.p, .int .i64 y.q, .int .i64 y.d, .int .i64 y.n] 36) = w3 := ⟨_, rfl⟩
  have HX3 := Lib.hid (And.intro hgX hw3)
  have HB3 := Lib.hid (show Below w2.heap.size w2 w3 ∧ Blk w3 gX 36 y.c.toArray by
    rw [← hw3]
    exact ⟨(Below.refl _ w2).alloc (Nat.le_refl _) _, Blk.last w2 _ _ hgX⟩)
  clear hgX hw3
  go_upto_region 10 with (fail)
  rw [HX3.out.2, HX3.out.1]
  have hb3 := HB2.out.below HB3.out.1 HB2.out.lt
  have a0 : w3.cell? ⟨gA, 0, none⟩ = some (.int .i64 3) := (hb3.cell 0).trans rfl
  have a1 : w3.cell? ⟨gA, 1, none⟩ = some (.int .i64 x.k.T) := (hb3.cell 1).trans rfl
  have a2 : w3.cell? ⟨gA, 2, none⟩ = some (.int .i64 x.k.O) := (hb3.cell 2).trans rfl
  have a3 : w3.cell? ⟨gA, 3, none⟩ = some (.int .i64 x.k.S) := (hb3.cell 3).trans rfl
  have a4 : w3.cell? ⟨gA, 4, none⟩ = some (.int .i64 x.p) := (hb3.cell 4).trans rfl
  have a5 : w3.cell? ⟨gA, 5, none⟩ = some (.int .i64 x.q) := (hb3.cell 5).trans rfl
  have a6 : w3.cell? ⟨gA, 6, none⟩ = some (.int .i64 x.d) := (hb3.cell 6).trans rfl
  have a7 : w3.cell? ⟨gA, 7, none⟩ = some (.int .i64 x.n) := (hb3.cell 7).trans rfl
  have a8 : w3.cell? ⟨gA, 8, none⟩ = some (.int .i64 n) := (hb3.cell 8).trans rfl
  clear hb3
  go_wp2_with fail
  refine (drop_theirsC w w3 gB gR L x.k.O x.n y is (H2.out.step HB3.out.1) (by have := HL.out; omega)).mono ?_
  rintro r w4 ⟨rfl, h4, hc4⟩
  have H4 := Lib.hid h4
  have hne : gX ≠ gR := by have := H2.out.lt; have := HX3.out.1; omega
  have HX4 := Lib.hid (show Blk w4 gX 36 y.c.toArray from HB3.out.2.chg hc4 hne)
  clear h4 hc4 hne a0 a1 a2 a3 a4 a5 a6 a7 a8
  rw [(by rfl : itv y is = .tuple #[.agg #[.int .i64 y.k.T, .int .i64 y.k.O, .int .i64 y.k.S, .int .i64 y.p, .int .i64 y.q, .int .i64 y.d, .int .i64 y.n], .bool is])]
  obtain ⟨gY, hgY⟩ : ∃ gY, w4.heap.size = gY := ⟨_, rfl⟩
  obtain ⟨w5, hw5⟩ : ∃ w5, w4.alloc (.cells #[.int .i64 y.k.T, .int .i64 y.k.O, .int .i64 y.k.S, .int .i64 y.p, .int .i64 y.q, .int .i64 y.d, .int .i64 y.n] 36) = w5 := ⟨_, rfl⟩
  have HX5 := Lib.hid (And.intro hgY hw5)
  have HB5 := Lib.hid (show Below w4.heap.size w4 w5 ∧ Blk w5 gY 36 y.c.toArray by
    rw [← hw5]
    exact ⟨(Below.refl _ w4).alloc (Nat.le_refl _) _, Blk.last w4 _ _ hgY⟩)
  clear hgY hw5
  go_upto_region 11 with (fail)
  rw [HX5.out.2, HX5.out.1]
  have hx5 := HX4.out.below HB5.out.1 HX4.out.lt
  have hy5 := HB5.out.2
  have u0 : w5.cell? ⟨gX, 0, none⟩ = some (.int .i64 y.k.T) := (hx5.cell 0).trans rfl
  have u1 : w5.cell? ⟨gX, 1, none⟩ = some (.int .i64 y.k.O) := (hx5.cell 1).trans rfl
  have u2 : w5.cell? ⟨gX, 2, none⟩ = some (.int .i64 y.k.S) := (hx5.cell 2).trans rfl
  have u3 : w5.cell? ⟨gX, 3, none⟩ = some (.int .i64 y.p) := (hx5.cell 3).trans rfl
  have u4 : w5.cell? ⟨gX, 4, none⟩ = some (.int .i64 y.q) := (hx5.cell 4).trans rfl
  have u5 : w5.cell? ⟨gX, 5, none⟩ = some (.int .i64 y.d) := (hx5.cell 5).trans rfl
  have u6 : w5.cell? ⟨gX, 6, none⟩ = some (.int .i64 y.n) := (hx5.cell 6).trans rfl
  have v0 : w5.cell? ⟨gY, 0, none⟩ = some (.int .i64 y.k.T) := (hy5.cell 0).trans rfl
  have v1 : w5.cell? ⟨gY, 1, none⟩ = some (.int .i64 y.k.O) := (hy5.cell 1).trans rfl
  have v2 : w5.cell? ⟨gY, 2, none⟩ = some (.int .i64 y.k.S) := (hy5.cell 2).trans rfl
  have v3 : w5.cell? ⟨gY, 3, none⟩ = some (.int .i64 y.p) := (hy5.cell 3).trans rfl
  have v4 : w5.cell? ⟨gY, 4, none⟩ = some (.int .i64 y.q) := (hy5.cell 4).trans rfl
  have v5 : w5.cell? ⟨gY, 5, none⟩ = some (.int .i64 y.d) := (hy5.cell 5).trans rfl
  have v6 : w5.cell? ⟨gY, 6, none⟩ = some (.int .i64 y.n) := (hy5.cell 6).trans rfl
  clear hx5 hy5
  go_wp2_with fail
  go_ret
  exact ⟨rfl, by obtain ⟨L', q1, q2⟩ := H4.out; exact ⟨L', q1, q2.step HB5.out.1⟩⟩
end Go.Proofs.Ytghmldfllieonaa.Fr
/- The law's do: Least, Most. Helper. -/
namespace Go.Proofs.Ytghmldfllieonaa.Fr
open Go.RowKit Go.Proofs.Ytghmldfllieonaa
set_option linter.unusedVariables false
set_option linter.unusedSimpArgs false
set_option maxRecDepth 100000
set_option maxHeartbeats 6400000
theorem do_4 (w : Fw) (W : World) (gB gR : Nat) (L : List It) (x : It) (n : Int) (h : BothH w W gB gR L) (hx : WOk x) (hl : L.length ≤ 1000) : Calls Try.prog 19 #[.pointer (some ⟨gB, 0, none⟩), .pointer (some ⟨gR, 0, none⟩), .agg #[.int .i64 4, .int .i64 x.k.T, .int .i64 x.k.O, .int .i64 x.k.S, .int .i64 x.p, .int .i64 x.q, .int .i64 x.d, .int .i64 x.n, .int .i64 n]] W fun r w' => r = .returned (.bool true) ∧ ∃ L', L'.length ≤ L.length + 1 ∧ BothH w w' gB gR L' := by
  have HL := Lib.hid hl
  have HWX := Lib.hid hx
  obtain ⟨gA, hgA⟩ : ∃ gA, W.heap.size = gA := ⟨_, rfl⟩
  obtain ⟨wA, hwA⟩ : ∃ wA, W.alloc (.cells #[.int .i64 4, .int .i64 x.k.T, .int .i64 x.k.O, .int .i64 x.k.S, .int .i64 x.p, .int .i64 x.q, .int .i64 x.d, .int .i64 x.n, .int .i64 n] 49) = wA := ⟨_, rfl⟩
  have hb := h.boxed 49 #[.int .i64 4, .int .i64 x.k.T, .int .i64 x.k.O, .int .i64 x.k.S, .int .i64 x.p, .int .i64 x.q, .int .i64 x.d, .int .i64 x.n, .int .i64 n]
  rw [hwA, hgA] at hb
  have HW := Lib.hid (And.intro hgA hwA)
  have HB := Lib.hid hb
  have hbk := hb.blk
  have a0 : wA.cell? ⟨gA, 0, none⟩ = some (.int .i64 4) := (hbk.cell 0).trans rfl
  have a1 : wA.cell? ⟨gA, 1, none⟩ = some (.int .i64 x.k.T) := (hbk.cell 1).trans rfl
  have a2 : wA.cell? ⟨gA, 2, none⟩ = some (.int .i64 x.k.O) := (hbk.cell 2).trans rfl
  have a3 : wA.cell? ⟨gA, 3, none⟩ = some (.int .i64 x.k.S) := (hbk.cell 3).trans rfl
  have a4 : wA.cell? ⟨gA, 4, none⟩ = some (.int .i64 x.p) := (hbk.cell 4).trans rfl
  have a5 : wA.cell? ⟨gA, 5, none⟩ = some (.int .i64 x.q) := (hbk.cell 5).trans rfl
  have a6 : wA.cell? ⟨gA, 6, none⟩ = some (.int .i64 x.d) := (hbk.cell 6).trans rfl
  have a7 : wA.cell? ⟨gA, 7, none⟩ = some (.int .i64 x.n) := (hbk.cell 7).trans rfl
  have a8 : wA.cell? ⟨gA, 8, none⟩ = some (.int .i64 n) := (hbk.cell 8).trans rfl
  clear h hl hx hb hbk hgA hwA
  go_enter Try.func19, Try.ntmps19
  go_upto_region 1 with (fail)
  rw [HW.out.2, HW.out.1]
  obtain ⟨y, hy⟩ : ∃ y, firstI L = y := ⟨_, rfl⟩
  obtain ⟨z, hz⟩ : ∃ z, lastI L = z := ⟨_, rfl⟩
  obtain ⟨is, his⟩ : ∃ is, isI L = is := ⟨_, rfl⟩
  have k0 := fun W2 (h : BothH w W2 gB gR L) => least_mineB w W2 gB gR L h (by have := HL.out; omega)
  have k1 := fun W2 (h : BothH w W2 gB gR L) => least_theirsB w W2 gB gR L h (by have := HL.out; omega)
  have k2 := fun W2 (h : BothH w W2 gB gR L) => most_mineB w W2 gB gR L h (by have := HL.out; omega)
  have k3 := fun W2 (h : BothH w W2 gB gR L) => most_theirsB w W2 gB gR L h (by have := HL.out; omega)
  simp only [hy, his] at k0 k1
  simp only [hz, his] at k2 k3
  have K0 := Lib.hid k0
  have K1 := Lib.hid k1
  have K2 := Lib.hid k2
  have K3 := Lib.hid k3
  clear k0 k1 k2 k3 hy hz his
  have N0 := Lib.hid HB.out.both
  clear HB a1 a2 a3 a4 a5 a6 a7 a8
  go_wp2_with fail
  refine (K0.out _ N0.out).mono ?_
  rintro r w2 ⟨rfl, h2, hw⟩
  have M0 := Lib.hid h2
  have HN0 := Lib.hid hw
  clear h2 hw
  rw [(by rfl : itv y is = .tuple #[.agg #[.int .i64 y.k.T, .int .i64 y.k.O, .int .i64 y.k.S, .int .i64 y.p, .int .i64 y.q, .int .i64 y.d, .int .i64 y.n], .bool is])]
  obtain ⟨g0, hg0⟩ : ∃ g0, w2.heap.size = g0 := ⟨_, rfl⟩
  obtain ⟨w3, hw3⟩ : ∃ w3, w2.alloc (.cells #[.int .i64 y.k.T, .int .i64 y.k.O, .int .i64 y.k.S, .int .i64 y.p, .int .i64 y.q, .int .i64 y.d, .int .i64 y.n] 36) = w3 := ⟨_, rfl⟩
  have HX0 := Lib.hid (And.intro hg0 hw3)
  have HB0 := Lib.hid (show Below w2.heap.size w2 w3 ∧ Blk w3 g0 36 y.c.toArray by
    rw [← hw3]
    exact ⟨(Below.refl _ w2).alloc (Nat.le_refl _) _, Blk.last w2 _ _ hg0⟩)
  clear hg0 hw3
  go_upto_region 14 with (fail)
  rw [HX0.out.2, HX0.out.1]
  have N1 := Lib.hid (M0.out.step HB0.out.1)
  have Q0x0 := Lib.hid HB0.out.2
  go_wp2_with fail
  refine (K1.out _ N1.out).mono ?_
  rintro r w4 ⟨rfl, h2, hw⟩
  have M1 := Lib.hid h2
  have HN1 := Lib.hid hw
  clear h2 hw
  rw [(by rfl : itv y is = .tuple #[.agg #[.int .i64 y.k.T, .int .i64 y.k.O, .int .i64 y.k.S, .int .i64 y.p, .int .i64 y.q, .int .i64 y.d, .int .i64 y.n], .bool is])]
  obtain ⟨g1, hg1⟩ : ∃ g1, w4.heap.size = g1 := ⟨_, rfl⟩
  obtain ⟨w5, hw5⟩ : ∃ w5, w4.alloc (.cells #[.int .i64 y.k.T, .int .i64 y.k.O, .int .i64 y.k.S, .int .i64 y.p, .int .i64 y.q, .int .i64 y.d, .int .i64 y.n] 36) = w5 := ⟨_, rfl⟩
  have HX1 := Lib.hid (And.intro hg1 hw5)
  have HB1 := Lib.hid (show Below w4.heap.size w4 w5 ∧ Blk w5 g1 36 y.c.toArray by
    rw [← hw5]
    exact ⟨(Below.refl _ w4).alloc (Nat.le_refl _) _, Blk.last w4 _ _ hg1⟩)
  clear hg1 hw5
  go_upto_region 15 with (fail)
  rw [HX1.out.2, HX1.out.1]
  have N2 := Lib.hid (M1.out.step HB1.out.1)
  have Q0x1 := Lib.hid ((Q0x0.out.below HN1.out Q0x0.out.lt).below HB1.out.1 (Q0x0.out.below HN1.out Q0x0.out.lt).lt)
  have Q1x1 := Lib.hid HB1.out.2
  go_wp2_with fail
  refine (K2.out _ N2.out).mono ?_
  rintro r w6 ⟨rfl, h2, hw⟩
  have M2 := Lib.hid h2
  have HN2 := Lib.hid hw
  clear h2 hw
  rw [(by rfl : itv z is = .tuple #[.agg #[.int .i64 z.k.T, .int .i64 z.k.O, .int .i64 z.k.S, .int .i64 z.p, .int .i64 z.q, .int .i64 z.d, .int .i64 z.n], .bool is])]
  obtain ⟨g2, hg2⟩ : ∃ g2, w6.heap.size = g2 := ⟨_, rfl⟩
  obtain ⟨w7, hw7⟩ : ∃ w7, w6.alloc (.cells #[.int .i64 z.k.T, .int .i64 z.k.O, .int .i64 z.k.S, .int .i64 z.p, .int .i64 z.q, .int .i64 z.d, .int .i64 z.n] 36) = w7 := ⟨_, rfl⟩
  have HX2 := Lib.hid (And.intro hg2 hw7)
  have HB2 := Lib.hid (show Below w6.heap.size w6 w7 ∧ Blk w7 g2 36 z.c.toArray by
    rw [← hw7]
    exact ⟨(Below.refl _ w6).alloc (Nat.le_refl _) _, Blk.last w6 _ _ hg2⟩)
  clear hg2 hw7
  go_upto_region 16 with (fail)
  rw [HX2.out.2, HX2.out.1]
  have N3 := Lib.hid (M2.out.step HB2.out.1)
  have Q0x2 := Lib.hid ((Q0x1.out.below HN2.out Q0x1.out.lt).below HB2.out.1 (Q0x1.out.below HN2.out Q0x1.out.lt).lt)
  have Q1x2 := Lib.hid ((Q1x1.out.below HN2.out Q1x1.out.lt).below HB2.out.1 (Q1x1.out.below HN2.out Q1x1.out.lt).lt)
  have Q2x2 := Lib.hid HB2.out.2
  go_wp2_with fail
  refine (K3.out _ N3.out).mono ?_
  rintro r w8 ⟨rfl, h2, hw⟩
  have M3 := Lib.hid h2
  have HN3 := Lib.hid hw
  clear h2 hw
  rw [(by rfl : itv z is = .tuple #[.agg #[.int .i64 z.k.T, .int .i64 z.k.O, .int .i64 z.k.S, .int .i64 z.p, .int .i64 z.q, .int .i64 z.d, .int .i64 z.n], .bool is])]
  obtain ⟨g3, hg3⟩ : ∃ g3, w8.heap.size = g3 := ⟨_, rfl⟩
  obtain ⟨w9, hw9⟩ : ∃ w9, w8.alloc (.cells #[.int .i64 z.k.T, .int .i64 z.k.O, .int .i64 z.k.S, .int .i64 z.p, .int .i64 z.q, .int .i64 z.d, .int .i64 z.n] 36) = w9 := ⟨_, rfl⟩
  have HX3 := Lib.hid (And.intro hg3 hw9)
  have HB3 := Lib.hid (show Below w8.heap.size w8 w9 ∧ Blk w9 g3 36 z.c.toArray by
    rw [← hw9]
    exact ⟨(Below.refl _ w8).alloc (Nat.le_refl _) _, Blk.last w8 _ _ hg3⟩)
  clear hg3 hw9
  go_upto_region 17 with (fail)
  rw [HX3.out.2, HX3.out.1]
  have N4 := Lib.hid (M3.out.step HB3.out.1)
  have Q0x3 := Lib.hid ((Q0x2.out.below HN3.out Q0x2.out.lt).below HB3.out.1 (Q0x2.out.below HN3.out Q0x2.out.lt).lt)
  have Q1x3 := Lib.hid ((Q1x2.out.below HN3.out Q1x2.out.lt).below HB3.out.1 (Q1x2.out.below HN3.out Q1x2.out.lt).lt)
  have Q2x3 := Lib.hid ((Q2x2.out.below HN3.out Q2x2.out.lt).below HB3.out.1 (Q2x2.out.below HN3.out Q2x2.out.lt).lt)
  have Q3x3 := Lib.hid HB3.out.2
  have qq0 := Q0x3.out
  have u0x0 : w9.cell? ⟨g0, 0, none⟩ = some (.int .i64 y.k.T) := (qq0.cell 0).trans rfl
  have u0x1 : w9.cell? ⟨g0, 1, none⟩ = some (.int .i64 y.k.O) := (qq0.cell 1).trans rfl
  have u0x2 : w9.cell? ⟨g0, 2, none⟩ = some (.int .i64 y.k.S) := (qq0.cell 2).trans rfl
  have u0x3 : w9.cell? ⟨g0, 3, none⟩ = some (.int .i64 y.p) := (qq0.cell 3).trans rfl
  have u0x4 : w9.cell? ⟨g0, 4, none⟩ = some (.int .i64 y.q) := (qq0.cell 4).trans rfl
  have u0x5 : w9.cell? ⟨g0, 5, none⟩ = some (.int .i64 y.d) := (qq0.cell 5).trans rfl
  have u0x6 : w9.cell? ⟨g0, 6, none⟩ = some (.int .i64 y.n) := (qq0.cell 6).trans rfl
  clear qq0
  have qq1 := Q1x3.out
  have u1x0 : w9.cell? ⟨g1, 0, none⟩ = some (.int .i64 y.k.T) := (qq1.cell 0).trans rfl
  have u1x1 : w9.cell? ⟨g1, 1, none⟩ = some (.int .i64 y.k.O) := (qq1.cell 1).trans rfl
  have u1x2 : w9.cell? ⟨g1, 2, none⟩ = some (.int .i64 y.k.S) := (qq1.cell 2).trans rfl
  have u1x3 : w9.cell? ⟨g1, 3, none⟩ = some (.int .i64 y.p) := (qq1.cell 3).trans rfl
  have u1x4 : w9.cell? ⟨g1, 4, none⟩ = some (.int .i64 y.q) := (qq1.cell 4).trans rfl
  have u1x5 : w9.cell? ⟨g1, 5, none⟩ = some (.int .i64 y.d) := (qq1.cell 5).trans rfl
  have u1x6 : w9.cell? ⟨g1, 6, none⟩ = some (.int .i64 y.n) := (qq1.cell 6).trans rfl
  clear qq1
  have qq2 := Q2x3.out
  have u2x0 : w9.cell? ⟨g2, 0, none⟩ = some (.int .i64 z.k.T) := (qq2.cell 0).trans rfl
  have u2x1 : w9.cell? ⟨g2, 1, none⟩ = some (.int .i64 z.k.O) := (qq2.cell 1).trans rfl
  have u2x2 : w9.cell? ⟨g2, 2, none⟩ = some (.int .i64 z.k.S) := (qq2.cell 2).trans rfl
  have u2x3 : w9.cell? ⟨g2, 3, none⟩ = some (.int .i64 z.p) := (qq2.cell 3).trans rfl
  have u2x4 : w9.cell? ⟨g2, 4, none⟩ = some (.int .i64 z.q) := (qq2.cell 4).trans rfl
  have u2x5 : w9.cell? ⟨g2, 5, none⟩ = some (.int .i64 z.d) := (qq2.cell 5).trans rfl
  have u2x6 : w9.cell? ⟨g2, 6, none⟩ = some (.int .i64 z.n) := (qq2.cell 6).trans rfl
  clear qq2
  have qq3 := Q3x3.out
  have u3x0 : w9.cell? ⟨g3, 0, none⟩ = some (.int .i64 z.k.T) := (qq3.cell 0).trans rfl
  have u3x1 : w9.cell? ⟨g3, 1, none⟩ = some (.int .i64 z.k.O) := (qq3.cell 1).trans rfl
  have u3x2 : w9.cell? ⟨g3, 2, none⟩ = some (.int .i64 z.k.S) := (qq3.cell 2).trans rfl
  have u3x3 : w9.cell? ⟨g3, 3, none⟩ = some (.int .i64 z.p) := (qq3.cell 3).trans rfl
  have u3x4 : w9.cell? ⟨g3, 4, none⟩ = some (.int .i64 z.q) := (qq3.cell 4).trans rfl
  have u3x5 : w9.cell? ⟨g3, 5, none⟩ = some (.int .i64 z.d) := (qq3.cell 5).trans rfl
  have u3x6 : w9.cell? ⟨g3, 6, none⟩ = some (.int .i64 z.n) := (qq3.cell 6).trans rfl
  clear qq3
  go_wp2_with fail
  go_ret
  exact ⟨rfl, L, by omega, N4.out⟩
end Go.Proofs.Ytghmldfllieonaa.Fr
/- The law's do: Has. Helper. -/
namespace Go.Proofs.Ytghmldfllieonaa.Fr
open Go.RowKit Go.Proofs.Ytghmldfllieonaa
set_option linter.unusedVariables false
set_option linter.unusedSimpArgs false
set_option maxRecDepth 100000
set_option maxHeartbeats 6400000
theorem do_5 (w : Fw) (W : World) (gB gR : Nat) (L : List It) (x : It) (n : Int) (h : BothH w W gB gR L) (hx : WOk x) (hl : L.length ≤ 1000) : Calls Try.prog 19 #[.pointer (some ⟨gB, 0, none⟩), .pointer (some ⟨gR, 0, none⟩), .agg #[.int .i64 5, .int .i64 x.k.T, .int .i64 x.k.O, .int .i64 x.k.S, .int .i64 x.p, .int .i64 x.q, .int .i64 x.d, .int .i64 x.n, .int .i64 n]] W fun r w' => r = .returned (.bool true) ∧ ∃ L', L'.length ≤ L.length + 1 ∧ BothH w w' gB gR L' := by
  have HL := Lib.hid hl
  have HWX := Lib.hid hx
  obtain ⟨gA, hgA⟩ : ∃ gA, W.heap.size = gA := ⟨_, rfl⟩
  obtain ⟨wA, hwA⟩ : ∃ wA, W.alloc (.cells #[.int .i64 5, .int .i64 x.k.T, .int .i64 x.k.O, .int .i64 x.k.S, .int .i64 x.p, .int .i64 x.q, .int .i64 x.d, .int .i64 x.n, .int .i64 n] 49) = wA := ⟨_, rfl⟩
  have hb := h.boxed 49 #[.int .i64 5, .int .i64 x.k.T, .int .i64 x.k.O, .int .i64 x.k.S, .int .i64 x.p, .int .i64 x.q, .int .i64 x.d, .int .i64 x.n, .int .i64 n]
  rw [hwA, hgA] at hb
  have HW := Lib.hid (And.intro hgA hwA)
  have HB := Lib.hid hb
  have hbk := hb.blk
  have a0 : wA.cell? ⟨gA, 0, none⟩ = some (.int .i64 5) := (hbk.cell 0).trans rfl
  have a1 : wA.cell? ⟨gA, 1, none⟩ = some (.int .i64 x.k.T) := (hbk.cell 1).trans rfl
  have a2 : wA.cell? ⟨gA, 2, none⟩ = some (.int .i64 x.k.O) := (hbk.cell 2).trans rfl
  have a3 : wA.cell? ⟨gA, 3, none⟩ = some (.int .i64 x.k.S) := (hbk.cell 3).trans rfl
  have a4 : wA.cell? ⟨gA, 4, none⟩ = some (.int .i64 x.p) := (hbk.cell 4).trans rfl
  have a5 : wA.cell? ⟨gA, 5, none⟩ = some (.int .i64 x.q) := (hbk.cell 5).trans rfl
  have a6 : wA.cell? ⟨gA, 6, none⟩ = some (.int .i64 x.d) := (hbk.cell 6).trans rfl
  have a7 : wA.cell? ⟨gA, 7, none⟩ = some (.int .i64 x.n) := (hbk.cell 7).trans rfl
  have a8 : wA.cell? ⟨gA, 8, none⟩ = some (.int .i64 n) := (hbk.cell 8).trans rfl
  clear h hl hx hb hbk hgA hwA
  go_enter Try.func19, Try.ntmps19
  go_upto_region 1 with (fail)
  rw [HW.out.2, HW.out.1]
  have KH := Lib.hid (fun W2 (h : BothB w W2 gB gR L gA 49 #[.int .i64 5, .int .i64 x.k.T, .int .i64 x.k.O, .int .i64 x.k.S, .int .i64 x.p, .int .i64 x.q, .int .i64 x.d, .int .i64 x.n, .int .i64 n]) => has_mine w W2 gB gR L x.k.O x.n h.both HWX.out.1 HWX.out.2)
  have KO := Lib.hid (fun W2 (h : BothB w W2 gB gR L gA 49 #[.int .i64 5, .int .i64 x.k.T, .int .i64 x.k.O, .int .i64 x.k.S, .int .i64 x.p, .int .i64 x.q, .int .i64 x.d, .int .i64 x.n, .int .i64 n]) => of_theirs w W2 gB gR L x.k.O x.n h.both (by have := HL.out; omega))
  go_wp2_with fail
  have hss : ∀ W2, BothB w W2 gB gR L gA 49 #[.int .i64 5, .int .i64 x.k.T, .int .i64 x.k.O, .int .i64 x.k.S, .int .i64 x.p, .int .i64 x.q, .int .i64 x.d, .int .i64 x.n, .int .i64 n] → BothB w W2 gB gR L gA 49 #[.int .i64 5, .int .i64 x.k.T, .int .i64 x.k.O, .int .i64 x.k.S, .int .i64 x.p, .int .i64 x.q, .int .i64 x.d, .int .i64 x.n, .int .i64 n] ∧ W2.cell? ⟨gA, 2, none⟩ = some (.int .i64 x.k.O) ∧ W2.cell? ⟨gA, 7, none⟩ = some (.int .i64 x.n) := fun W2 h => ⟨h, (h.blk.cell 2).trans rfl, (h.blk.cell 7).trans rfl⟩
  have HSS := Lib.hid hss
  clear a0 a1 a2 a3 a4 a5 a6 a7 a8 hss
  go_region_held3 (fun W2 => BothB w W2 gB gR L gA 49 #[.int .i64 5, .int .i64 x.k.T, .int .i64 x.k.O, .int .i64 x.k.S, .int .i64 x.p, .int .i64 x.q, .int .i64 x.d, .int .i64 x.n, .int .i64 n] ∧ W2.cell? ⟨gA, 2, none⟩ = some (.int .i64 x.k.O) ∧ W2.cell? ⟨gA, 7, none⟩ = some (.int .i64 x.n)) ((refine HSS.out _ ?_; repeat (first | assumption | exact HB.out | refine BothB.drew ?_))) (first
    | (go_at_call 25; refine (KH.out _ (by repeat (first | assumption | exact HB.out | refine BothB.drew ?_))).mono ?_; rintro r w2 ⟨b, rfl, hbi, rfl⟩; have HBI := Lib.hid hbi; clear hbi)
    | (go_at_call 28; refine (KO.out _ (by repeat (first | assumption | exact HB.out | refine BothB.drew ?_))).mono ?_; rintro r w3 ⟨y, rfl, hyi, rfl⟩; have HYI := Lib.hid hyi; clear hyi))
  case' _ => skip
  rename_i hH
  have H3 := Lib.hid hH.1
  clear hH
  go_wp2_with fail
  go_ret
  refine ⟨?_, L, by omega, H3.out.both⟩
  have hb := HBI.out
  have hy := HYI.out
  cases b <;> simp_all
end Go.Proofs.Ytghmldfllieonaa.Fr
/- The law's do: what is listed. Helper. -/
namespace Go.Proofs.Ytghmldfllieonaa.Fr
open Go.RowKit Go.Proofs.Ytghmldfllieonaa
set_option linter.unusedVariables false
set_option linter.unusedSimpArgs false
set_option maxRecDepth 100000
set_option maxHeartbeats 6400000
theorem do_6 (w : Fw) (W : World) (gB gR : Nat) (L : List It) (x : It) (n : Int) (h : BothH w W gB gR L) (hx : WOk x) (hl : L.length ≤ 1000) : Calls Try.prog 19 #[.pointer (some ⟨gB, 0, none⟩), .pointer (some ⟨gR, 0, none⟩), .agg #[.int .i64 6, .int .i64 x.k.T, .int .i64 x.k.O, .int .i64 x.k.S, .int .i64 x.p, .int .i64 x.q, .int .i64 x.d, .int .i64 x.n, .int .i64 n]] W fun r w' => r = .returned (.bool true) ∧ ∃ L', L'.length ≤ L.length + 1 ∧ BothH w w' gB gR L' := by
  have HL := Lib.hid hl
  have HWX := Lib.hid hx
  obtain ⟨gA, hgA⟩ : ∃ gA, W.heap.size = gA := ⟨_, rfl⟩
  obtain ⟨wA, hwA⟩ : ∃ wA, W.alloc (.cells #[.int .i64 6, .int .i64 x.k.T, .int .i64 x.k.O, .int .i64 x.k.S, .int .i64 x.p, .int .i64 x.q, .int .i64 x.d, .int .i64 x.n, .int .i64 n] 49) = wA := ⟨_, rfl⟩
  have hb := h.boxed 49 #[.int .i64 6, .int .i64 x.k.T, .int .i64 x.k.O, .int .i64 x.k.S, .int .i64 x.p, .int .i64 x.q, .int .i64 x.d, .int .i64 x.n, .int .i64 n]
  rw [hwA, hgA] at hb
  have HW := Lib.hid (And.intro hgA hwA)
  have HB := Lib.hid hb
  have hbk := hb.blk
  have a0 : wA.cell? ⟨gA, 0, none⟩ = some (.int .i64 6) := (hbk.cell 0).trans rfl
  have a1 : wA.cell? ⟨gA, 1, none⟩ = some (.int .i64 x.k.T) := (hbk.cell 1).trans rfl
  have a2 : wA.cell? ⟨gA, 2, none⟩ = some (.int .i64 x.k.O) := (hbk.cell 2).trans rfl
  have a3 : wA.cell? ⟨gA, 3, none⟩ = some (.int .i64 x.k.S) := (hbk.cell 3).trans rfl
  have a4 : wA.cell? ⟨gA, 4, none⟩ = some (.int .i64 x.p) := (hbk.cell 4).trans rfl
  have a5 : wA.cell? ⟨gA, 5, none⟩ = some (.int .i64 x.q) := (hbk.cell 5).trans rfl
  have a6 : wA.cell? ⟨gA, 6, none⟩ = some (.int .i64 x.d) := (hbk.cell 6).trans rfl
  have a7 : wA.cell? ⟨gA, 7, none⟩ = some (.int .i64 x.n) := (hbk.cell 7).trans rfl
  have a8 : wA.cell? ⟨gA, 8, none⟩ = some (.int .i64 n) := (hbk.cell 8).trans rfl
  clear h hl hx hb hbk hgA hwA
  go_enter Try.func19, Try.ntmps19
  go_upto_region 1 with (fail)
  rw [HW.out.2, HW.out.1]
  obtain ⟨k, hk⟩ : ∃ k, kN n L.length = k := ⟨_, rfl⟩
  have hkl : k ≤ L.length := by rw [← hk]; unfold kN; split <;> omega
  have kl := list_mine w wA gB gR L n HB.out.both (by have := HL.out; omega)
  rw [hk] at kl
  have KL := Lib.hid kl
  obtain ⟨q, hq⟩ : ∃ q, L.length = q := ⟨_, rfl⟩
  have HQ := Lib.hid (And.intro hq hk)
  have HKL := Lib.hid hkl
  have HBK := Lib.hid HB.out.blk
  clear kl hk hkl
  go_wp2_with fail
  refine KL.out.mono ?_
  rintro r w2 ⟨A, c, rfl, hr, h2, hn⟩
  obtain ⟨A2, c2, hc2, hr2, hlc⟩ := refs_list w w2 gB gR L h2
  rw [hq] at hc2 hlc
  have HR := Lib.hid (And.intro hr hr2)
  have H2 := Lib.hid h2
  have hb2 := HBK.out.below hn HBK.out.lt
  clear hr hr2 h2 hn HB a0 a1 a2 a3 a4 a5 a6 a7 a8 hq
  have a8 : w2.cell? ⟨gA, 8, none⟩ = some (.int .i64 n) := (hb2.cell 8).trans rfl
  clear hb2
  by_cases hp : 0 < n ∧ n < (q : Int)
  · obtain ⟨m, rfl⟩ : ∃ m : Nat, n = (m : Int) := ⟨n.toNat, by omega⟩
    have hkm : k = m := by have := HQ.out; rw [← this.2, this.1]; unfold kN; rw [if_pos hp]; simp
    subst hkm
    have p1 := hp.1
    have p2 := hp.2
    have d1 : decide ((0 : Int) < (k : Int)) = true := decide_eq_true p1
    have d2 : decide ((k : Int) < (q : Int)) = true := decide_eq_true p2
    have kc : (k : Int) ≤ (c2 : Int) := by omega
    have ks := fun W2 (hW : Nw w2 W2) => refSame_any A A2 c c2 (L.take k) (L.take k) W2 (HR.out.1.nw hW) (by have := HR.out.2; rw [← rowsI_take]; exact (rd_take this k).nw hW) (by rw [List.length_take]; have := HL.out; omega) (by rw [List.length_take]; have := HL.out; omega)
    rw [show (L.take k).length = k by rw [List.length_take]; have := HQ.out.1; omega] at ks
    have KS := Lib.hid ks
    clear ks hp
    go_wp2_with fail
    refine (KS.out _ (by first | exact Nw.refl _ | exact (Nw.refl _).drew)).mono ?_
    rintro r w3 ⟨rfl, h3⟩
    have H3 := Lib.hid (H2.out.step h3)
    clear h3
    go_wp2_with fail
    go_ret
    exact ⟨by simp, L, by omega, H3.out⟩
  · have hkm : k = q := by have := HQ.out; rw [← this.2, this.1]; unfold kN; rw [if_neg hp]
    subst hkm
    have ks := fun W2 (hW : Nw w2 W2) => refSame_any A A2 c c2 L L W2 (by have := HR.out.1; rw [List.take_of_length_le (by have := HQ.out.1; omega)] at this; exact this.nw hW) (HR.out.2.nw hW) (by have := HL.out; omega) (by have := HL.out; omega)
    rw [HQ.out.1] at ks
    have KS := Lib.hid ks
    clear ks
    by_cases p1 : 0 < n
    · have p2 : ¬ n < (k : Int) := fun q => hp ⟨p1, q⟩
      have d1 : decide ((0 : Int) < n) = true := decide_eq_true p1
      have d2 : decide (n < (k : Int)) = false := decide_eq_false p2
      clear hp
      go_wp2_with fail
      refine (KS.out _ (by first | exact Nw.refl _ | exact (Nw.refl _).drew)).mono ?_
      rintro r w3 ⟨rfl, h3⟩
      have H3 := Lib.hid (H2.out.step h3)
      clear h3
      go_wp2_with fail
      go_ret
      exact ⟨by simp, L, by omega, H3.out⟩
    · have d1 : decide ((0 : Int) < n) = false := decide_eq_false p1
      clear hp
      go_wp2_with fail
      refine (KS.out _ (by first | exact Nw.refl _ | exact (Nw.refl _).drew)).mono ?_
      rintro r w3 ⟨rfl, h3⟩
      have H3 := Lib.hid (H2.out.step h3)
      clear h3
      go_wp2_with fail
      go_ret
      exact ⟨by simp, L, by omega, H3.out⟩
end Go.Proofs.Ytghmldfllieonaa.Fr
/- The law's do and same, joined; what is handed in, act by act. Helper. -/
namespace Go.Proofs.Ytghmldfllieonaa.Fr
open Go.RowKit Go.Proofs.Ytghmldfllieonaa
set_option linter.unusedVariables false
set_option linter.unusedSimpArgs false
set_option maxRecDepth 100000
set_option maxHeartbeats 6400000
theorem do_any (w : Fw) (W : World) (gB gR : Nat) (L : List It) (K : Int) (x : It) (n : Int) (h : BothH w W gB gR L) (hx : WOk x) (hl : L.length ≤ 1000) : Calls Try.prog 19 #[.pointer (some ⟨gB, 0, none⟩), .pointer (some ⟨gR, 0, none⟩), .agg #[.int .i64 K, .int .i64 x.k.T, .int .i64 x.k.O, .int .i64 x.k.S, .int .i64 x.p, .int .i64 x.q, .int .i64 x.d, .int .i64 x.n, .int .i64 n]] W fun r w' => r = .returned (.bool true) ∧ ∃ L', L'.length ≤ L.length + 1 ∧ BothH w w' gB gR L' := by
  by_cases h1 : K = 1
  · subst h1; exact do_1 w W gB gR L x n h hx hl
  by_cases h2 : K = 2
  · subst h2; exact do_2 w W gB gR L x n h hx hl
  by_cases h3 : K = 3
  · subst h3; exact do_3 w W gB gR L x n h hx hl
  by_cases h4 : K = 4
  · subst h4; exact do_4 w W gB gR L x n h hx hl
  by_cases h5 : K = 5
  · subst h5; exact do_5 w W gB gR L x n h hx hl
  by_cases h6 : K = 6
  · subst h6; exact do_6 w W gB gR L x n h hx hl
  · exact do_0 w W gB gR L x n K (fun j hj => by omega) h hx hl
theorem same_any (w : Fw) (W : World) (gB gR : Nat) (L : List It) (h : BothH w W gB gR L) (hl : L.length ≤ 1000) : Calls Try.prog 20 #[.pointer (some ⟨gB, 0, none⟩), .pointer (some ⟨gR, 0, none⟩)] W fun r w' => r = .returned (.bool true) ∧ BothH w w' gB gR L := by
  have kl := list_mine w W gB gR L 0 h (by omega)
  have e : kN 0 L.length = L.length := by unfold kN; simp
  rw [e, List.take_length] at kl
  obtain ⟨q, hq⟩ : ∃ q, L.length = q := ⟨_, rfl⟩
  rw [hq] at kl
  have KL := Lib.hid kl
  have HQ := Lib.hid (And.intro hq hl)
  clear kl hl e hq h
  go_enter Try.func20, Try.ntmps20
  go_wp2_with fail
  refine KL.out.mono ?_
  rintro r w2 ⟨A, c, rfl, hr, h2, hn⟩
  obtain ⟨A2, c2, hc2, hr2, hlc⟩ := refs_list w w2 gB gR L h2
  have ks := fun W2 (hW : Nw w2 W2) => refSame_any A A2 c c2 L L W2 (hr.nw hW) (hr2.nw hW) (by have := HQ.out; omega) (by have := HQ.out; omega)
  have kn := fun W2 (hW : Nw w2 W2) => len_mine w W2 gB gR L (h2.step hW)
  rw [HQ.out.1] at hc2 ks kn
  simp only [decide_true] at ks
  have KS := Lib.hid ks
  have KN := Lib.hid kn
  have H2 := Lib.hid h2
  have hss : ∀ W2, Nw w2 W2 → Nw w2 W2 ∧ W2.cell? ⟨gR, 0, none⟩ = some (.slice A2 q c2) := fun W2 h => ⟨h, h.cell hc2⟩
  have HSS := Lib.hid hss
  have hi0 := Nw.refl w2
  clear ks kn h2 hn hr hr2 hlc hss
  go_upto_region 2 with (fail)
  go_region_held3 (fun W2 => Nw w2 W2 ∧ W2.cell? ⟨gR, 0, none⟩ = some (.slice A2 q c2)) ((refine HSS.out _ ?_; repeat (first | assumption | exact Nw.refl w2 | refine Nw.drew ?_))) (first
    | (go_at_call 18; refine (KN.out _ (by repeat (first | assumption | exact Nw.refl w2 | refine Nw.drew ?_))).mono ?_; rintro r w4 ⟨rfl, rfl⟩)
    | (go_at_call 24; refine (KS.out _ (by repeat (first | assumption | exact Nw.refl w2 | refine Nw.drew ?_))).mono ?_; rintro r w5 ⟨rfl, b5⟩; have i5 : Nw w2 w5 := Nw.step (by repeat (first | assumption | exact Nw.refl w2 | refine Nw.drew ?_)) b5))
  case' _ => skip
  rename_i hH
  have H4 := Lib.hid (H2.out.step hH.1)
  clear hH
  go_wp2_with fail
  go_ret
  exact ⟨rfl, H4.out⟩
end Go.Proofs.Ytghmldfllieonaa.Fr
/- Two of ours and two of the document's: each pair turns beside the other. Helper. -/
namespace Go.Proofs.Ytghmldfllieonaa
open Go.RowKit
set_option linter.unusedVariables false
set_option linter.unusedSimpArgs false
/-- Both heaps, whose blocks are of B. -/
def HeldH (B : Nat → Prop) (w W : World) (gB gR : Nat) (L : List It) : Prop :=
  ∃ S v f bk l blk, l.Perm L ∧ HpS W gB S v l f bk ∧ RefH W gR L blk ∧ (∀ k, HTurn gB S bk k → w.heap.size ≤ k ∧ B k ∧ ¬ RU gR blk k) ∧ (∀ k, RU gR blk k → w.heap.size ≤ k ∧ B k) ∧ (∀ k, B k → k < W.heap.size) ∧ Nw w W ∧ Srt L
/-- Two pairs, apart. -/
def Two (w W : World) (gB gR : Nat) (L : List It) (hB hR : Nat) (M : List It) : Prop :=
  ∃ B C : Nat → Prop, (∀ k, B k → ¬ C k) ∧ HeldH B w W gB gR L ∧ HeldH C w W hB hR M
section
variable {w W W' : World} {gB gR hB hR : Nat} {L M : List It} {B C : Nat → Prop}
theorem Two.symm (h : Two w W gB gR L hB hR M) : Two w W hB hR M gB gR L := by
  obtain ⟨B, C, hd, h1, h2⟩ := h
  exact ⟨C, B, fun k hc hb => hd k hb hc, h2, h1⟩
theorem HeldH.nw (h : HeldH B w W gB gR L) : Nw w W := by
  obtain ⟨S, v, f, bk, l, blk, _, _, _, _, _, _, hn, _⟩ := h; exact hn
theorem HeldH.both (h : HeldH B w W gB gR L) : BothH w W gB gR L := by
  obtain ⟨S, v, f, bk, l, blk, hp, hh, hr, ht, hu, hb, hn, hs⟩ := h
  exact ⟨blk, ⟨S, v, f, bk, l, hp, hh, fun k hk => ⟨(ht k hk).1, (ht k hk).2.2⟩, fun k hk => hb k (hu k hk).2, hn⟩, hr, (hu gR (.inl rfl)).1, fun g hg => (hu g (.inr hg.symm)).1, hs⟩
theorem HeldH.keep (h : HeldH C w W hB hR M) (hc : Chg (fun k => ¬ C k) W W') (hn : Nw w W') : HeldH C w W' hB hR M := by
  obtain ⟨S, v, f, bk, l, blk, hp, hh, hr, ht, hu, hb, _, hs⟩ := h
  exact ⟨S, v, f, bk, l, blk, hp, hh.chg hc fun k hk q => q (ht k hk).2.1, hr.chg hc (fun q => q (hu hR (.inl rfl)).2) (fun g hg q => q (hu g (.inr hg.symm)).2), ht, hu, fun k hk => Nat.lt_of_lt_of_le (hb k hk) hc.size, hn, hs⟩
theorem HeldH.fr (h : HeldH B w W gB gR L) (hd : ∀ k, B k → ¬ C k) (hC : ∀ k, C k → k < W.heap.size) : Fr.BothH ⟨w, C, W⟩ W gB gR L := by
  obtain ⟨S, v, f, bk, l, blk, hp, hh, hr, ht, hu, hb, hn, hs⟩ := h
  refine ⟨blk, ⟨S, v, f, bk, l, hp, hh, fun k hk => ⟨(ht k hk).1, ?_⟩, ?_, hn⟩, ⟨hr, ⟨hd gR (hu gR (.inl rfl)).2, fun g hg => hd g (hu g (.inr hg.symm)).2⟩, Chg.refl _ _⟩, (hu gR (.inl rfl)).1, fun g hg => (hu g (.inr hg.symm)).1, hs⟩
  · rintro (q | q)
    · exact (ht k hk).2.2 q
    · exact hd k (ht k hk).2.1 q
  · rintro k (q | q)
    · exact hb k (hu k q).2
    · exact hC k q
theorem Fr.BothH.held (h : Fr.BothH ⟨w, C, W⟩ W' gB gR L) : ∃ B, (∀ k, B k → ¬ C k) ∧ HeldH B w W' gB gR L ∧ Chg (fun k => ¬ C k) W W' := by
  obtain ⟨blk, ⟨S, v, f, bk, l, hp, hh, ht, hu, hn⟩, ⟨hr, hv, hc⟩, h1, h2, hs⟩ := h
  refine ⟨fun k => HTurn gB S bk k ∨ RU gR blk k, ?_, ⟨S, v, f, bk, l, blk, hp, hh, hr, fun k hk => ⟨(ht k hk).1, .inl hk, fun q => (ht k hk).2 (.inl q)⟩, fun k hk => ⟨?_, .inr hk⟩, ?_, hn, hs⟩, hc⟩
  · rintro k (hk | hk)
    · exact fun q => (ht k hk).2 (.inr q)
    · rcases hk with rfl | hk
      · exact hv.1
      · exact hv.2 k hk.symm
  · rcases hk with rfl | hk
    · exact h1
    · exact h2 k hk.symm
  · rintro k (hk | hk)
    · exact hh.lt k hk
    · exact hu k (.inl hk)
theorem Two.turned (hd : ∀ k, B k → ¬ C k) (h2 : HeldH C w W hB hR M) (h : Fr.BothH ⟨w, C, W⟩ W' gB gR L) : Two w W' gB gR L hB hR M := by
  obtain ⟨B', q1, q2, q3⟩ := h.held
  exact ⟨B', C, q1, q2, h2.keep q3 q2.nw⟩
theorem HeldH.lt (h : HeldH B w W gB gR L) : ∀ k, B k → k < W.heap.size := by
  obtain ⟨S, v, f, bk, l, blk, _, _, _, _, _, hb, _, _⟩ := h; exact hb
theorem Two.step (h : Two w W gB gR L hB hR M) (hS : Below W.heap.size W W') : Two w W' gB gR L hB hR M := by
  obtain ⟨B, C, hd, h1, h2⟩ := h
  exact ⟨B, C, hd, h1.keep (Chg.of_below hS (Nat.le_refl _) _) (h1.nw.step hS), h2.keep (Chg.of_below hS (Nat.le_refl _) _) (h2.nw.step hS)⟩
theorem Two.nw (h : Two w W gB gR L hB hR M) : Nw w W := by
  obtain ⟨B, C, hd, h1, h2⟩ := h; exact h1.nw
end
theorem do_two (w W : World) (gB gR : Nat) (L : List It) (hB hR : Nat) (M : List It) (K : Int) (x : It) (n : Int) (h : Two w W gB gR L hB hR M) (hx : WOk x) (hl : L.length ≤ 1000) : Calls Try.prog 19 #[.pointer (some ⟨gB, 0, none⟩), .pointer (some ⟨gR, 0, none⟩), .agg #[.int .i64 K, .int .i64 x.k.T, .int .i64 x.k.O, .int .i64 x.k.S, .int .i64 x.p, .int .i64 x.q, .int .i64 x.d, .int .i64 x.n, .int .i64 n]] W fun r w' => r = .returned (.bool true) ∧ ∃ L', L'.length ≤ L.length + 1 ∧ Two w w' gB gR L' hB hR M := by
  obtain ⟨B, C, hd, h1, h2⟩ := h
  exact (Fr.do_any ⟨w, C, W⟩ W gB gR L K x n (h1.fr hd h2.lt) hx hl).mono fun r w' ⟨hr, L', hl', hb⟩ => ⟨hr, L', hl', Two.turned hd h2 hb⟩
theorem do_two2 (w W : World) (gB gR : Nat) (L : List It) (hB hR : Nat) (M : List It) (K : Int) (x : It) (n : Int) (h : Two w W gB gR L hB hR M) (hx : WOk x) (hl : M.length ≤ 1000) : Calls Try.prog 19 #[.pointer (some ⟨hB, 0, none⟩), .pointer (some ⟨hR, 0, none⟩), .agg #[.int .i64 K, .int .i64 x.k.T, .int .i64 x.k.O, .int .i64 x.k.S, .int .i64 x.p, .int .i64 x.q, .int .i64 x.d, .int .i64 x.n, .int .i64 n]] W fun r w' => r = .returned (.bool true) ∧ ∃ M', M'.length ≤ M.length + 1 ∧ Two w w' gB gR L hB hR M' :=
  (do_two w W hB hR M gB gR L K x n h.symm hx hl).mono fun r w' ⟨hr, M', hl', hb⟩ => ⟨hr, M', hl', hb.symm⟩
theorem same_two (w W : World) (gB gR : Nat) (L : List It) (hB hR : Nat) (M : List It) (h : Two w W gB gR L hB hR M) (hl : L.length ≤ 1000) : Calls Try.prog 20 #[.pointer (some ⟨gB, 0, none⟩), .pointer (some ⟨gR, 0, none⟩)] W fun r w' => r = .returned (.bool true) ∧ Two w w' gB gR L hB hR M := by
  obtain ⟨B, C, hd, h1, h2⟩ := h
  exact (Fr.same_any ⟨w, C, W⟩ W gB gR L (h1.fr hd h2.lt) hl).mono fun r w' ⟨hr, hb⟩ => ⟨hr, Two.turned hd h2 hb⟩
theorem same_two2 (w W : World) (gB gR : Nat) (L : List It) (hB hR : Nat) (M : List It) (h : Two w W gB gR L hB hR M) (hl : M.length ≤ 1000) : Calls Try.prog 20 #[.pointer (some ⟨hB, 0, none⟩), .pointer (some ⟨hR, 0, none⟩)] W fun r w' => r = .returned (.bool true) ∧ Two w w' gB gR L hB hR M :=
  (same_two w W hB hR M gB gR L h.symm hl).mono fun r w' ⟨hr, hb⟩ => ⟨hr, hb.symm⟩
end Go.Proofs.Ytghmldfllieonaa
/- A copy: ours, the document's. Helper. -/
namespace Go.Proofs.Ytghmldfllieonaa
open Go.RowKit
set_option linter.unusedVariables false
set_option linter.unusedSimpArgs false
set_option maxRecDepth 100000
set_option maxHeartbeats 1600000
theorem own_void (w : World) (e : TypeId) (size : Nat) (A : Option Addr) : Own w e size (.slice A 0 0) 0 [] none := ⟨by simp, A, 0, rfl, Nat.le_refl _, Nat.zero_le _, .inl ⟨rfl, rfl⟩⟩
theorem clone_any (W : World) (A : Option Addr) (n c : Nat) (l : List It) (blk : Option Nat) (h : Own W 36 7 (.slice A n c) n (rowsI l) blk) (hn : n ≤ 100000) :
    Calls Try.prog 37 #[.slice A n c] W fun r w' => ∃ A' c' blk', r = .returned (.slice A' n c') ∧ Own w' 36 7 (.slice A' n c') n (rowsI l) blk' ∧ (∀ g, blk' = some g → W.heap.size ≤ g) ∧ Below W.heap.size W w' := by
  obtain ⟨i0, hi0, hz0, hz1, hz2⟩ := info_parts infoItem
  have HL1 := Lib.hid hi0
  have HL2 := Lib.hid hz0
  have HL3 := Lib.hid hz1
  have HL4 := Lib.hid hz2
  clear hi0 hz0 hz1 hz2
  have hlen := h.1
  cases A with
  | none =>
    have h0 : n = 0 := by
      obtain ⟨_, A', c', e, h1, h2, h3 | ⟨g, off, cur, e2, _⟩⟩ := h
      · injection e with _ _ e3; have := h3.1; omega
      · injection e with e1; rw [← e1] at e2; cases e2
    subst h0
    have hl : l = [] := by rw [rowsI_length] at hlen; exact List.eq_nil_of_length_eq_zero (by omega)
    subst hl
    have hn' := fun w => Lib.run_eql_slice_nil (P := Try.prog) w 22 36 none 0 c 0 0 Try.underlying22
    clear h
    go_enter Try.func37, Try.ntmps37
    go_wp2_with fail
    go_ret
    exact ⟨none, 0, none, rfl, Own.nil _ _ _, fun g hg => (by cases hg), Below.refl _ _⟩
  | some a =>
    have hn' := fun w => Lib.run_eql_slice_nil (P := Try.prog) w 22 36 (some a) n c 0 0 Try.underlying22
    have hrd : ∀ o', Rd (W.alloc o') (some a) (rowsI l) := fun o' => (Own.rdAt h).nw ((Nw.refl W).alloc o')
    have HR := Lib.hid hrd
    clear hrd h
    go_enter Try.func37, Try.ntmps37
    go_wp2_with (at_builtin; refine wpList_append_at _ rfl _ _ _ rfl 36 i0 _ 7 56 Try.underlying22 HL1.out HL2.out HL3.out HL4.out rfl (by omega) _ 0 [] none rfl (own_void _ _ _ _) _ n c (rowsI l) rfl hlen (HR.out _) (rowsI_mem _) (by simp only [maxLen]; omega) (by omega) ?_; intro A' c' w1 blk1 hown hchg hat; simp only [Nat.zero_add, List.nil_append] at hown)
    go_ret
    refine ⟨A', c', blk1, rfl, hown, fun g hg => ?_, ((Below.refl W.heap.size W).alloc (Nat.le_refl _) _).trans (hchg.below (fun i _ h => by cases h) (by simp))⟩
    rcases hat with h | h
    · rw [h] at hg; cases hg
    · rw [h] at hg; injection hg with hg; simp at hg; omega
theorem mapsClone_any (w : World) (S : Nat) (f : Int → Int → Option Nat) (c : Nat) (h : MapIs w S f c) :
    Calls Try.prog 38 #[.map (some S)] w fun e w' => e = .returned (.map (some w.heap.size)) ∧ MapIs w' w.heap.size f c ∧ Below w.heap.size w w' := by
  obtain ⟨D, ⟨es, clock, hb, F, hs, hD⟩, h2⟩ := h
  have hq := fun w => run_eql_map_nil_sl (P := Try.prog) w 55 _ _ (some S) Try.underlying55
  have HB := Lib.hid hb
  have HR := Lib.hid (show MapIs (w.alloc (.map es clock)) w.heap.size f c from ⟨D, ⟨es, clock, (MapKept.heap_alloc w _).1, F, hs, hD⟩, h2⟩)
  clear hb hs hD F h2
  go_enter Try.func38, Try.ntmps38
  go_wp2
  rw [run_callFunc_extern Try.func45 (by kernel_rfl) (by kernel_rfl) (by kernel_rfl) (e := Extern.MapsClone.clone) (by kernel_rfl), run_maps_clone_sl w 55 HB.out]
  simp only [Result.andThen]
  rw [Oper.upon_value]
  go_wp2
  rw [run_typeAssert_map_sl _ 55 20 _ _ _ Try.underlying55]
  simp only [Result.andThen]
  rw [Oper.upon_value]
  go_wp2
  go_ret
  exact ⟨rfl, HR.out, (Below.refl _ w).alloc (Nat.le_refl _) _⟩
end Go.Proofs.Ytghmldfllieonaa
/- A copy of ours, and of the document's. Helper. -/
namespace Go.Proofs.Ytghmldfllieonaa
open Go.RowKit
set_option linter.unusedVariables false
set_option linter.unusedSimpArgs false
set_option maxRecDepth 100000
set_option maxHeartbeats 6400000
theorem copy_end {w w2 w3 W' : World} {gB' n cc2 : Nat} {A2 : Option Addr} {l : List It} {f : Int → Int → Option Nat} {b2 : Option Nat} (n2 : Nw w w2) (n3 : Nw w2 w3) (hN3 : Nw w3 W') (hb : Blk W' gB' 57 #[.slice A2 n cc2, .map (some w2.heap.size)]) (hg : w3.heap.size ≤ gB')
    (ho : Own w2 36 7 (.slice A2 n cc2) n (rowsI l) b2) (hg2 : ∀ g, b2 = some g → w.heap.size ≤ g) (hm : MapIs w3 w2.heap.size f n) (hh : NameOk l f ∧ (∀ e ∈ l, WOk e) ∧ HeapL l ∧ l.length = n) :
    HpS W' gB' w2.heap.size (.slice A2 n cc2) l f b2 ∧ (∀ k, HTurn gB' w2.heap.size b2 k → w.heap.size ≤ k) ∧ Below w.heap.size w W' := by
  have hs2 := n2.size
  have hs3 := n3.size
  refine ⟨⟨⟨hb, ?_, ?_⟩, hh.1, hh.2.1, hh.2.2.1⟩, ?_, Below.trans n2 ((Below.trans n3 (hN3.mono n3.size)).mono hs2)⟩
  · rw [hh.2.2.2]
    exact ho.kept fun g hg => (hN3.block g (Nat.lt_of_lt_of_le (ho.lt g hg) n3.size)).trans (n3.block g (ho.lt g hg))
  · rw [hh.2.2.2]
    exact hm.same (hN3.block _ hm.lt)
  · rintro k (q | q | q)
    · omega
    · omega
    · exact hg2 k q.symm
theorem copy_any (w : World) (gB S : Nat) (v : Value) (l : List It) (f : Int → Int → Option Nat) (blk : Option Nat) (h : HpS w gB S v l f blk) (hl : l.length ≤ 100000) :
    Calls Try.prog 21 #[.pointer (some ⟨gB, 0, none⟩)] w fun r w' => ∃ gB' S' v' blk', r = .returned (.pointer (some ⟨gB', 0, none⟩)) ∧ HpS w' gB' S' v' l f blk' ∧ (∀ k, HTurn gB' S' blk' k → w.heap.size ≤ k) ∧ Below w.heap.size w w' := by
  obtain ⟨A, c, rfl, _, _, _⟩ := h.hm.ow.rd
  obtain ⟨n, hn⟩ : ∃ n, l.length = n := ⟨_, rfl⟩
  have hb := h.hm.bk
  have ho := h.hm.ow
  have hm := h.hm.mp
  rw [hn] at hb ho hm hl
  have K1 := Lib.hid (fun W (hW : Nw w W) => clone_any W A n c l blk (ho.kept fun g hg => hW.block g (ho.lt g hg)) hl)
  have K2 := Lib.hid (fun W (hW : Nw w W) => mapsClone_any W S f n (hm.same (hW.block S hm.lt)))
  have c0 : w.cell? ⟨gB, 0, none⟩ = some (.slice A n c) := (hb.cell 0).trans rfl
  have c1 : w.cell? ⟨gB, 1, none⟩ = some (.map (some S)) := (hb.cell 1).trans rfl
  have HC := Lib.hid (fun W (hW : Nw w W) => (⟨hW.cell c0, hW.cell c1⟩ : W.cell? ⟨gB, 0, none⟩ = some (.slice A n c) ∧ W.cell? ⟨gB, 1, none⟩ = some (.map (some S))))
  have HH := Lib.hid (show NameOk l f ∧ (∀ e ∈ l, WOk e) ∧ HeapL l ∧ l.length = n from ⟨h.nm, h.wf, h.hp, hn⟩)
  clear h hb ho hm hn hl
  go_enter Try.func21, Try.ntmps21
  go_wp2_with fail
  go_region_with (first
    | (go_at_call 37; refine (K1.out _ (by repeat (first | assumption | exact Nw.refl w | refine Nw.drew ?_))).mono ?_; rintro r w2 ⟨A2, cc2, b2, rfl, ho2, hg2, hB2⟩; have n2 : Nw w w2 := Nw.step (by repeat (first | assumption | exact Nw.refl w | refine Nw.drew ?_)) hB2; obtain ⟨d0, d1⟩ := HC.out w2 n2; have HO2 := Lib.hid ho2; have HG2 := Lib.hid hg2; clear ho2 hg2 hB2)
    | (go_at_call 38; refine (K2.out _ (by repeat (first | assumption | exact Nw.refl w | refine Nw.drew ?_))).mono ?_; rintro r w3 ⟨rfl, hm3, hB3⟩; have n3 : Nw w2 w3 := Nw.step (by repeat (first | exact Nw.refl w2 | refine Nw.drew ?_)) hB3; have hs3 := hB3.size; have HM3 := Lib.hid hm3; clear hm3 hB3))
  all_goals
    go_wp2_with fail
    go_ret
    exact ⟨_, w2.heap.size, .slice A2 n cc2, b2, rfl, copy_end n2 n3 (Nw.alloc (by repeat (first | exact Nw.refl w3 | refine Nw.drew ?_)) _) (Blk.last _ _ _ rfl) (Nat.le_refl _) HO2.out (fun g hg => HG2.out g hg) HM3.out HH.out⟩
theorem refCopy_any (w : World) (gR : Nat) (L : List It) (blk : Option Nat) (h : RefH w gR L blk) (hl : L.length ≤ 100000) :
    Calls Try.prog 22 #[.pointer (some ⟨gR, 0, none⟩)] w fun r w' => ∃ gR' blk', r = .returned (.pointer (some ⟨gR', 0, none⟩)) ∧ RefH w' gR' L blk' ∧ w.heap.size ≤ gR' ∧ (∀ g, blk' = some g → w.heap.size ≤ g) ∧ Below w.heap.size w w' := by
  obtain ⟨i0, hi0, hz0, hz1, hz2⟩ := info_parts infoItem
  have HL1 := Lib.hid hi0
  have HL2 := Lib.hid hz0
  have HL3 := Lib.hid hz1
  have HL4 := Lib.hid hz2
  clear hi0 hz0 hz1 hz2
  obtain ⟨A, c, hb, ho⟩ := h
  obtain ⟨n, hn⟩ : ∃ n, L.length = n := ⟨_, rfl⟩
  rw [hn] at hb ho hl
  have hlen := ho.1
  have hlt := hb.lt
  have c0 : w.cell? ⟨gR, 0, none⟩ = some (.slice A n c) := (hb.cell 0).trans rfl
  have HR := Lib.hid (Own.rdAt ho)
  have HN := Lib.hid hn
  clear hb ho hn
  go_enter Try.func22, Try.ntmps22
  go_wp2_with (at_builtin; refine wpList_append_at _ rfl _ _ _ rfl 36 i0 _ 7 56 Try.underlying22 HL1.out HL2.out HL3.out HL4.out rfl (by omega) _ 0 [] none rfl (Own.nil _ _ _) _ n c (rowsI L) rfl hlen HR.out (rowsI_mem _) (by simp only [maxLen]; omega) (by omega) ?_; intro A' c' w1 blk1 hown hchg hat; simp only [Nat.zero_add, List.nil_append] at hown)
  have hw1 : Nw w w1 := hchg.below (fun i _ h => by cases h) (Nat.le_refl _)
  have hs1 := hw1.size
  go_ret
  refine ⟨w1.heap.size, blk1, rfl, ⟨A', c', (by rw [HN.out]; exact Blk.last _ _ _ rfl), ?_⟩, hs1, fun g hg => ?_, Below.trans hw1 (((Below.refl _ w1).alloc (Nat.le_refl _) _).mono hs1)⟩
  · rw [HN.out]
    exact hown.kept fun g hg => Below.heap_alloc _ _ _ (hown.lt g hg)
  · rcases hat with h | h
    · rw [h] at hg; cases hg
    · rw [h] at hg; injection hg with hg; omega
end Go.Proofs.Ytghmldfllieonaa
