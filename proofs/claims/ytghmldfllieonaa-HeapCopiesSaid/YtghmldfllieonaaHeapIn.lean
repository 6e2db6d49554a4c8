/- A heap of one's own, beside what others turn: its contracts on the items, in any order. Helper. -/
import Derived.Test.YtghmldfllieonaaHeapTake
namespace Go.Proofs.Ytghmldfllieonaa
open Go.RowKit
set_option linter.unusedVariables false
set_option linter.unusedSimpArgs false
/-- A heap that a walk from w on has made; U: blocks that others turn. -/
def HeapO (U : Nat → Prop) (w W : World) (gB : Nat) (L : List It) : Prop :=
  ∃ S v f blk l, l.Perm L ∧ HpS W gB S v l f blk ∧ (∀ k, HTurn gB S blk k → w.heap.size ≤ k ∧ ¬ U k) ∧ (∀ k, U k → k < W.heap.size) ∧ Nw w W
/-- What an act leaves. -/
def HeapO2 (U : Nat → Prop) (w W w' : World) (gB : Nat) (L : List It) : Prop := HeapO U w w' gB L ∧ Chg (fun k => ¬ U k) W w'
section
variable {U : Nat → Prop} {w W w' : World} {gB : Nat} {L : List It}
theorem HeapO.step (h : HeapO U w W gB L) (hB : Below W.heap.size W w') : HeapO U w w' gB L := by
  obtain ⟨S, v, f, blk, l, hp, hh, ht, hu, hn⟩ := h
  exact ⟨S, v, f, blk, l, hp, hh.new hB, ht, fun k hk => Nat.lt_of_lt_of_le (hu k hk) hB.size, hn.step hB⟩
theorem HeapO.nw (h : HeapO U w W gB L) : Nw w W := by
  obtain ⟨S, v, f, blk, l, hp, hh, ht, hu, hn⟩ := h; exact hn
theorem HeapO.step2 (h : HeapO U w W gB L) (hB : Below W.heap.size W w') : HeapO2 U w W w' gB L := ⟨h.step hB, Chg.of_below hB (Nat.le_refl _) _⟩
theorem HeapO.perm (h : HeapO U w W gB L) {L' : List It} (hp' : L.Perm L') : HeapO U w W gB L' := by
  obtain ⟨S, v, f, blk, l, hp, r⟩ := h; exact ⟨S, v, f, blk, l, hp.trans hp', r⟩
/-- Others turn what is theirs, U; their new blocks are U2. -/
theorem HeapO.others {U2 : Nat → Prop} (h : HeapO U w W gB L) (hC : Chg U W w') (h2 : ∀ k, U2 k → U k ∨ W.heap.size ≤ k) (h3 : ∀ k, U2 k → k < w'.heap.size) (hU : ∀ k, U k → w.heap.size ≤ k) : HeapO U2 w w' gB L := by
  obtain ⟨S, v, f, blk, l, hp, hh, ht, hu, hn⟩ := h
  have hlt : ∀ k, HTurn gB S blk k → k < W.heap.size := by
    rintro k (h | h | h)
    · rw [h]; exact hh.hm.bk.lt
    · rw [h]; exact hh.hm.mp.lt
    · exact hh.hm.ow.lt _ h.symm
  refine ⟨S, v, f, blk, l, hp, hh.chg hC fun k hk => (ht k hk).2, fun k hk => ⟨(ht k hk).1, fun hk2 => ?_⟩, h3, Below.trans hn (hC.below (fun i _ hi => hU i hi) hn.size)⟩
  rcases h2 k hk2 with h | h
  · exact (ht k hk).2 h
  · have := hlt k hk; omega
/-- New blocks are laid, that others turn. -/
theorem HeapO.grow {U2 : Nat → Prop} (h : HeapO U w W gB L) (hB : Below W.heap.size W w') (h2 : ∀ k, U2 k → U k ∨ W.heap.size ≤ k) (h3 : ∀ k, U2 k → k < w'.heap.size) : HeapO U2 w w' gB L := by
  obtain ⟨S, v, f, blk, l, hp, hh, ht, hu, hn⟩ := h
  have hlt : ∀ k, HTurn gB S blk k → k < W.heap.size := by
    rintro k (h | h | h)
    · rw [h]; exact hh.hm.bk.lt
    · rw [h]; exact hh.hm.mp.lt
    · exact hh.hm.ow.lt _ h.symm
  refine ⟨S, v, f, blk, l, hp, hh.new hB, fun k hk => ⟨(ht k hk).1, fun hk2 => ?_⟩, h3, hn.step hB⟩
  rcases h2 k hk2 with h | h
  · exact (ht k hk).2 h
  · have := hlt k hk; omega
theorem HeapO2.keep {g : Nat} {t : TypeId} {cs : Array Value} (h : HeapO2 U w W w' gB L) (hb : Blk W g t cs) (hg : U g) : Blk w' g t cs := hb.chg h.2 (fun hn => hn hg)
theorem HeapO.turn {S : Nat} {blk : Option Nat} {l' : List It} (hp : l'.Perm L) (hlt : ∀ k, HTurn gB S blk k → k < W.heap.size) (ht : ∀ k, HTurn gB S blk k → w.heap.size ≤ k ∧ ¬ U k) (hu : ∀ k, U k → k < W.heap.size) (hn : Nw w W) (h : HpOut W w' gB S blk l') : HeapO2 U w W w' gB L := by
  obtain ⟨v', f', blk', h1, h2, h3⟩ := h
  refine ⟨⟨S, v', f', blk', l', hp, h1, ?_, fun k hk => Nat.lt_of_lt_of_le (hu k hk) h2.size, Below.trans hn (h2.below (fun i _ hi => (ht i hi).1) hn.size)⟩, h2.mono fun i _ hi => (ht i hi).2⟩
  have hs := hn.size
  rintro k (h | h | h)
  · exact ht k (.inl h)
  · exact ht k (.inr (.inl h))
  · rcases h3 with h3 | ⟨b, h3, h4⟩
    · exact ht k (.inr (.inr (h.trans h3)))
    · rw [h3] at h
      injection h with h
      exact ⟨by omega, fun hU => by have := hu k hU; omega⟩
end
theorem HpS.lt {W : World} {gB S : Nat} {v : Value} {l : List It} {f : Int → Int → Option Nat} {blk : Option Nat} (hh : HpS W gB S v l f blk) : ∀ k, HTurn gB S blk k → k < W.heap.size := by
  rintro k (h | h | h)
  · rw [h]; exact hh.hm.bk.lt
  · rw [h]; exact hh.hm.mp.lt
  · exact hh.hm.ow.lt _ h.symm
theorem mem_g {l : List It} {x : It} (h : x ∈ l) : ∃ j, j < l.length ∧ g l j = x := by
  obtain ⟨j, hj, e⟩ := List.getElem_of_mem h
  exact ⟨j, hj, by rw [g_get l j hj, e]⟩
theorem NameOk.eq {l : List It} {f : Int → Int → Option Nat} (h : NameOk l f) {x y : It} (hx : x ∈ l) (hy : y ∈ l) (h1 : x.k.O = y.k.O) (h2 : x.n = y.n) : x = y := by
  obtain ⟨i, hi, rfl⟩ := mem_g hx
  obtain ⟨j, hj, rfl⟩ := mem_g hy
  rw [h.uniq hi hj h1 h2]
theorem NameOk.none {l : List It} {f : Int → Int → Option Nat} (h : NameOk l f) {O N : Int} (hx : ∀ x ∈ l, ¬ (x.k.O = O ∧ x.n = N)) : f O N = Option.none := by
  cases e : f O N with
  | none => rfl
  | some i =>
    obtain ⟨h1, h2, h3⟩ := h.2 O N i e
    exact absurd ⟨h2, h3⟩ (hx _ (by rw [g_get l i h1]; exact List.getElem_mem h1))
theorem NameOk.some {l : List It} {f : Int → Int → Option Nat} (h : NameOk l f) {x : It} (hx : x ∈ l) : ∃ i, f x.k.O x.n = Option.some i ∧ i < l.length ∧ g l i = x := by
  obtain ⟨i, hi, rfl⟩ := mem_g hx
  exact ⟨i, h.1 i hi, hi, rfl⟩
theorem g_mem {l : List It} {i : Nat} (h : i < l.length) : g l i ∈ l := by rw [g_get l i h]; exact List.getElem_mem h
/-- The one that no other is ahead of. -/
theorem HpS.least_eq {W : World} {gB S : Nat} {v : Value} {l : List It} {f : Int → Int → Option Nat} {blk : Option Nat} (hh : HpS W gB S v l f blk) {x : It} (hx : x ∈ l) (hl : ∀ y ∈ l, y.less x = false) : g l 0 = x := by
  obtain ⟨j, hj, rfl⟩ := mem_g hx
  have h0 : 0 < l.length := by omega
  have := It.tie (hl _ (g_mem h0)) (hh.hp.least j hj)
  exact hh.nm.eq (g_mem h0) hx (by rw [this.1]) this.2
theorem HpS.most_eq {W : World} {gB S : Nat} {v : Value} {l : List It} {f : Int → Int → Option Nat} {blk : Option Nat} (hh : HpS W gB S v l f blk) {x : It} (hx : x ∈ l) (hl : ∀ y ∈ l, x.less y = false) {t : Nat} (ht : t < l.length) (hm : ∀ j, j < l.length → (g l t).less (g l j) = false) : g l t = x := by
  obtain ⟨j, hj, rfl⟩ := mem_g hx
  have := It.tie (hm j hj) (hl _ (g_mem ht))
  exact hh.nm.eq (g_mem ht) hx (by rw [this.1]) this.2
theorem perm_erase {l' l L : List It} {x : It} (h : (x :: l').Perm l) (hp : l.Perm L) : l'.Perm (L.erase x) := by
  have := (h.trans hp).erase x
  rwa [List.erase_cons_head] at this
section
variable (U : Nat → Prop) (w W : World) (gB : Nat) (L : List It)
theorem new_in (hn : Nw w W) (hu : ∀ k, U k → k < W.heap.size) : Calls Try.prog 8 #[] W fun e w' => ∃ gB, e = .returned (.pointer (some ⟨gB, 0, none⟩)) ∧ W.heap.size ≤ gB ∧ HeapO2 U w W w' gB [] :=
  (new_any W).mono fun e w' ⟨gB, S, v, f, he, h1, h2, h3, h4⟩ => by
    have hs := hn.size
    refine ⟨gB, he, h1, ⟨S, v, f, none, [], List.Perm.refl _, h4, ?_, fun k hk => Nat.lt_of_lt_of_le (hu k hk) h3.size, hn.step h3⟩, Chg.of_below h3 (Nat.le_refl _) _⟩
    rintro k (h | h | h)
    · exact ⟨by omega, fun hU => by have := hu k hU; omega⟩
    · exact ⟨by omega, fun hU => by have := hu k hU; omega⟩
    · cases h
theorem len_in (h : HeapO U w W gB L) : Calls Try.prog 18 #[.pointer (some ⟨gB, 0, none⟩)] W fun e w' => e = .returned (.int .i64 (L.length : Int)) ∧ w' = W := by
  obtain ⟨S, v, f, blk, l, hp, hh, ht, hu, hn⟩ := h
  rw [← hp.length_eq]
  exact len_any W gB S v l f blk hh
theorem put_in (e : It) (h : HeapO U w W gB L) (he : WOk e) (hx : ∀ x ∈ L, ¬ (x.k.O = e.k.O ∧ x.n = e.n)) (hl : L.length < 1024) : Calls Try.prog 9 #[.pointer (some ⟨gB, 0, none⟩), .agg e.c.toArray] W fun r w' => r = .returned (.int .i64 0) ∧ HeapO2 U w W w' gB (L ++ [e]) := by
  obtain ⟨S, v, f, blk, l, hp, hh, ht, hu, hn⟩ := h
  exact (put_any W gB S v l f blk e hh he (hh.nm.none fun x hx2 => hx x (hp.mem_iff.1 hx2)) (by rw [hp.length_eq]; exact hl)).mono fun r w' ⟨hr, l', hp', ho⟩ =>
    ⟨hr, HeapO.turn (hp'.trans (hp.append_right _)) hh.lt ht hu hn ho⟩
theorem putFull_in (e : It) (h : HeapO U w W gB L) (he : WOk e) (hx : ∀ x ∈ L, ¬ (x.k.O = e.k.O ∧ x.n = e.n)) (hl : 1024 ≤ L.length) : Calls Try.prog 9 #[.pointer (some ⟨gB, 0, none⟩), .agg e.c.toArray] W fun r w' => r = .returned (.int .i64 5) ∧ HeapO2 U w W w' gB L := by
  have h0 := h
  obtain ⟨S, v, f, blk, l, hp, hh, ht, hu, hn⟩ := h
  exact (put_full W gB S v l f blk e hh he (by rw [hh.nm.none fun x hx2 => hx x (hp.mem_iff.1 hx2)]; rfl) (by rw [hp.length_eq]; exact hl)).mono fun r w' ⟨hr, hB⟩ => ⟨hr, h0.step2 hB⟩
theorem putTwice_in (e x : It) (h : HeapO U w W gB L) (he : WOk e) (hx : x ∈ L) (hO : x.k.O = e.k.O) (hN : x.n = e.n) : Calls Try.prog 9 #[.pointer (some ⟨gB, 0, none⟩), .agg e.c.toArray] W fun r w' => r = .returned (.int .i64 7) ∧ HeapO2 U w W w' gB L := by
  have h0 := h
  obtain ⟨S, v, f, blk, l, hp, hh, ht, hu, hn⟩ := h
  obtain ⟨i, h1, _⟩ := hh.nm.some (hp.mem_iff.2 hx)
  rw [hO, hN] at h1
  exact (put_twice W gB S v l f blk e hh he (by rw [h1]; rfl)).mono fun r w' ⟨hr, hB⟩ => ⟨hr, h0.step2 hB⟩
theorem leastNo_in (h : HeapO U w W gB []) : Calls Try.prog 16 #[.pointer (some ⟨gB, 0, none⟩)] W fun r w' => r = .returned (itv It.zero false) ∧ HeapO2 U w W w' gB [] := by
  have h0 := h
  obtain ⟨S, v, f, blk, l, hp, hh, ht, hu, hn⟩ := h
  exact (least_none W gB S v l f blk hh hp.eq_nil).mono fun r w' ⟨hr, hB⟩ => ⟨hr, h0.step2 hB⟩
theorem mostNo_in (h : HeapO U w W gB []) : Calls Try.prog 17 #[.pointer (some ⟨gB, 0, none⟩)] W fun r w' => r = .returned (itv It.zero false) ∧ HeapO2 U w W w' gB [] := by
  have h0 := h
  obtain ⟨S, v, f, blk, l, hp, hh, ht, hu, hn⟩ := h
  exact (most_none W gB S v l f blk hh hp.eq_nil).mono fun r w' ⟨hr, hB⟩ => ⟨hr, h0.step2 hB⟩
theorem takeNo_in (h : HeapO U w W gB []) : Calls Try.prog 13 #[.pointer (some ⟨gB, 0, none⟩)] W fun r w' => r = .returned (itv It.zero false) ∧ HeapO2 U w W w' gB [] := by
  have h0 := h
  obtain ⟨S, v, f, blk, l, hp, hh, ht, hu, hn⟩ := h
  exact (take_none W gB S v l f blk hh hp.eq_nil).mono fun r w' ⟨hr, hB⟩ => ⟨hr, h0.step2 hB⟩
theorem least_in (x : It) (h : HeapO U w W gB L) (hx : x ∈ L) (hl : ∀ y ∈ L, y.less x = false) (hm : L.length ≤ 100000) : Calls Try.prog 16 #[.pointer (some ⟨gB, 0, none⟩)] W fun r w' => r = .returned (itv x true) ∧ HeapO2 U w W w' gB L := by
  have h0 := h
  obtain ⟨S, v, f, blk, l, hp, hh, ht, hu, hn⟩ := h
  have hx2 := hp.mem_iff.2 hx
  have he := hh.least_eq hx2 fun y hy => hl y (hp.mem_iff.1 hy)
  have := leastI_any W gB S v l f blk hh (List.length_pos_of_mem hx2) (by rw [hp.length_eq]; exact hm)
  rw [he] at this
  exact this.mono fun r w' ⟨hr, hB⟩ => ⟨hr, h0.step2 hB⟩
theorem most_in (x : It) (h : HeapO U w W gB L) (hx : x ∈ L) (hl : ∀ y ∈ L, x.less y = false) (hm : L.length ≤ 100000) : Calls Try.prog 17 #[.pointer (some ⟨gB, 0, none⟩)] W fun r w' => r = .returned (itv x true) ∧ HeapO2 U w W w' gB L := by
  have h0 := h
  obtain ⟨S, v, f, blk, l, hp, hh, ht, hu, hn⟩ := h
  have hx2 := hp.mem_iff.2 hx
  exact (most_any W gB S v l f blk hh (List.length_pos_of_mem hx2) (by rw [hp.length_eq]; exact hm)).mono fun r w' ⟨hB, t, ht, hr, hle⟩ => by
    rw [hh.most_eq hx2 (fun y hy => hl y (hp.mem_iff.1 hy)) ht hle] at hr
    exact ⟨hr, h0.step2 hB⟩
theorem take_in (x : It) (h : HeapO U w W gB L) (hx : x ∈ L) (hl : ∀ y ∈ L, y.less x = false) (hm : L.length ≤ 100000) : Calls Try.prog 13 #[.pointer (some ⟨gB, 0, none⟩)] W fun r w' => r = .returned (itv x true) ∧ HeapO2 U w W w' gB (L.erase x) := by
  obtain ⟨S, v, f, blk, l, hp, hh, ht, hu, hn⟩ := h
  have hx2 := hp.mem_iff.2 hx
  have he := hh.least_eq hx2 fun y hy => hl y (hp.mem_iff.1 hy)
  have := take_any W gB S v l f blk hh (List.length_pos_of_mem hx2) (by rw [hp.length_eq]; exact hm)
  rw [he] at this
  exact this.mono fun r w' ⟨hr, l', hp', ho⟩ => ⟨hr, HeapO.turn (perm_erase hp' hp) hh.lt ht hu hn ho⟩
theorem drop_in (x : It) (h : HeapO U w W gB L) (hw : WOk x) (hx : x ∈ L) (hm : L.length ≤ 100000) : Calls Try.prog 11 #[.pointer (some ⟨gB, 0, none⟩), .int .i64 x.k.O, .int .i64 x.n] W fun r w' => r = .returned (itv x true) ∧ HeapO2 U w W w' gB (L.erase x) := by
  obtain ⟨S, v, f, blk, l, hp, hh, ht, hu, hn⟩ := h
  obtain ⟨i, h1, h2, h3⟩ := hh.nm.some (hp.mem_iff.2 hx)
  have := drop_any W gB S v l f blk x.k.O x.n i hh hw.1 hw.2 h1 (by rw [hp.length_eq]; exact hm)
  rw [h3] at this
  exact this.mono fun r w' ⟨hr, l', hp', ho⟩ => ⟨hr, HeapO.turn (perm_erase hp' hp) hh.lt ht hu hn ho⟩
theorem dropNo_in (O N : Int) (h : HeapO U w W gB L) (hO : W64 O) (hN : W64 N) (hx : ∀ x ∈ L, ¬ (x.k.O = O ∧ x.n = N)) : Calls Try.prog 11 #[.pointer (some ⟨gB, 0, none⟩), .int .i64 O, .int .i64 N] W fun r w' => r = .returned (itv It.zero false) ∧ HeapO2 U w W w' gB L := by
  have h0 := h
  obtain ⟨S, v, f, blk, l, hp, hh, ht, hu, hn⟩ := h
  exact (drop_none W gB S v l f blk O N hh hO hN (hh.nm.none fun x hx2 => hx x (hp.mem_iff.1 hx2))).mono fun r w' ⟨hr, hB⟩ => ⟨hr, h0.step2 hB⟩
theorem HeapO.uniq {U : Nat → Prop} {w W : World} {gB : Nat} {L : List It} (h : HeapO U w W gB L) {x y : It} (hx : x ∈ L) (hy : y ∈ L) (h1 : x.k.O = y.k.O) (h2 : x.n = y.n) : x = y := by
  obtain ⟨S, v, f, blk, l, hp, hh, ht, hu, hn⟩ := h
  exact hh.nm.eq (hp.mem_iff.2 hx) (hp.mem_iff.2 hy) h1 h2
theorem HeapO.wf {U : Nat → Prop} {w W : World} {gB : Nat} {L : List It} (h : HeapO U w W gB L) {x : It} (hx : x ∈ L) : WOk x := by
  obtain ⟨S, v, f, blk, l, hp, hh, ht, hu, hn⟩ := h
  exact hh.wf x (hp.mem_iff.2 hx)
end
end Go.Proofs.Ytghmldfllieonaa
