/- Frames: a decoder, and all that it told, while a stream comes chunk by chunk. Helper. -/
import Derived.Test.YtalcafaibmbgjaaDoorFrmSame
import Derived.Test.YtalcafaibmbgjaaDoorFrmKnown
namespace Go.Proofs.YtalcafaibmbgjaaDoor
open Go.RowKit
set_option linter.unusedVariables false
set_option linter.unusedSimpArgs false
set_option maxRecDepth 100000
set_option maxHeartbeats 3200000
theorem own_ty {w : World} {e : TypeId} {size : Nat} {v : Value} {n : Nat} {xs : List Value} {g : Nat} (h : Own w e size v n xs (some g)) : ∃ cur, Blk w g e cur := by
  obtain ⟨_, _, _, _, _, _, h2 | ⟨g', off, cur, _, e2, hg, _⟩⟩ := h
  · cases h2.2
  · injection e2 with e2; subst e2; exact ⟨cur, hg⟩
theorem take_setF {α : Type} (l : List α) (off n i : Nat) (u : α) (h : i < n) : ((l.set (off + i) u).drop off).take n = ((l.drop off).take n).set i u := by
  apply List.ext_getElem?
  intro j
  rw [List.getElem?_take, List.getElem?_set, List.getElem?_drop, List.getElem?_set, List.getElem?_take, List.getElem?_drop]
  by_cases e : i = j
  · subst e
    simp only [if_true, if_pos h, List.length_take, List.length_drop]
    by_cases g : off + i < l.length
    · rw [if_pos g, if_pos (by omega)]
    · rw [if_neg g, if_neg (by omega)]
  · rw [if_neg e, if_neg (show ¬ off + i = off + j by omega)]
theorem own_setF {w : World} {e : TypeId} {g off n c : Nat} {xs : List Value} {blk : Option Nat} (h : Own w e 1 (.slice (some ⟨g, off, none⟩) n c) n xs blk) {i : Nat} (hi : i < n) (u : Value) :
    Own (w.setCell ⟨g, off + i, none⟩ u) e 1 (.slice (some ⟨g, off, none⟩) n c) n (xs.set i u) blk := by
  obtain ⟨hl, A, cc, hv, h1, h2, h3 | ⟨g', off', cur, rfl, rfl, hg, h4, h5⟩⟩ := h
  · injection hv with _ _ e3
    omega
  · injection hv with e1 e2 e3
    injection e1 with e1
    injection e1 with e1 e4 _
    subst e1 e4 e3
    refine ⟨by rw [List.length_set]; exact hl, _, _, rfl, h1, h2, .inr ⟨g, off, _, rfl, rfl, hg.set_ (off + i) u, by simpa using h4, ?_⟩⟩
    rw [Array.toList_setIfInBounds, take_setF _ _ _ _ _ (by omega), h5]
/-- The stream u came, T of it was told, as es. -/
structure TS (B0 : Nat) (w : World) (D : Nat) (u : List UInt8) (T : List (Nat × Nat) × Int × Nat) (es : List Tx) (AL : Option Addr) (cL : Nat) (blkL : Option Nat) (A : Option Addr) (c : Nat) (x : Value) (blk : Option Nat) : Prop where
  d : DecS w D u T A c x blk
  o : Own w 22 1 (.slice AL es.length cL) es.length (es.map Tx.v) blkL
  x : Txs w B0 es
  m : ∀ k, decM D blk k → B0 ≤ k
  gl : ∀ g, blkL = some g → B0 ≤ g
  far : ∀ e ∈ es, ¬ decM D blk e.1 ∧ some e.1 ≠ blkL
section
variable {B0 : Nat} {w w' : World} {D : Nat} {u : List UInt8} {T : List (Nat × Nat) × Int × Nat} {es : List Tx} {AL : Option Addr} {cL : Nat} {blkL : Option Nat} {A : Option Addr} {c : Nat} {x : Value} {blk : Option Nat}
theorem TS.lt (h : TS B0 w D u T es AL cL blkL A c x blk) : ∀ k, decM D blk k → k < w.heap.size := by
  intro k hk
  have hd : Dec w D _ _ _ A c x blk := h.d
  rcases hk with hk | hk
  · rw [hk]; exact hd.b.lt
  · exact hd.o.lt k hk.symm
theorem TS.sep (h : TS B0 w D u T es AL cL blkL A c x blk) : ∀ g, blkL = some g → ¬ decM D blk g := by
  intro g hg hk
  have hd : Dec w D _ _ _ A c x blk := h.d
  obtain ⟨cur, hcur⟩ := own_ty (hg ▸ h.o)
  rcases hk with hk | hk
  · subst hk; exact hd.b.ne_ hcur (by decide) rfl
  · obtain ⟨cur2, hcur2⟩ := own_ty (hk ▸ hd.o)
    exact hcur2.ne_ hcur (by decide) rfl
theorem TS.brkB (h : TS B0 w D u T es AL cL blkL A c x blk) : ∀ B, x = .iface 54 (.pointer (some ⟨B, 0, none⟩)) → ¬ decM D blk B ∧ some B ≠ blkL ∧ B < w.heap.size := by
  intro B hB
  have hd : Dec w D _ _ _ A c x blk := h.d
  obtain ⟨cur, hcur⟩ : ∃ cur, Blk w B 59 cur := by
    rcases hd.x with h1 | ⟨_, _, B', h1, h2⟩
    · rw [h1.2] at hB; cases hB
    · rw [h1] at hB; injection hB with _ hB; injection hB with hB; injection hB with hB; injection hB with hB; subst hB; exact ⟨_, h2⟩
  refine ⟨fun hk => ?_, fun hk => ?_, hcur.lt⟩
  · rcases hk with hk | hk
    · subst hk; exact hd.b.ne_ hcur (by decide) rfl
    · obtain ⟨cur2, hcur2⟩ := own_ty (hk ▸ hd.o)
      exact hcur2.ne_ hcur (by decide) rfl
  · obtain ⟨cur2, hcur2⟩ := own_ty (hk ▸ h.o)
    exact hcur2.ne_ hcur (by decide) rfl
/-- Other blocks turn. -/
theorem TS.chg {M : Nat → Prop} (h : TS B0 w D u T es AL cL blkL A c x blk) (hc : Chg M w w') (h1 : ∀ k, decM D blk k → ¬ M k) (h2 : ∀ g, blkL = some g → ¬ M g) (h3 : ∀ e ∈ es, ¬ M e.1) (h4 : ∀ B, x = .iface 54 (.pointer (some ⟨B, 0, none⟩)) → ¬ M B) : TS B0 w' D u T es AL cL blkL A c x blk :=
  ⟨Dec.chg h.d hc h1 h4, h.o.chg hc h2, h.x.chg hc h3, h.m, h.gl, h.far⟩
theorem TS.nw (h : TS B0 w D u T es AL cL blkL A c x blk) (n : Nw w w') : TS B0 w' D u T es AL cL blkL A c x blk :=
  h.chg (Chg.of_below n (Nat.le_refl _) (fun _ => False)) (fun _ _ h => h) (fun _ _ h => h) (fun _ _ h => h) (fun _ _ h => h)
/-- A block that is younger than all of it turns. -/
theorem TS.young {g0 : Nat} {blkC : Option Nat} (h : TS B0 w D u T es AL cL blkL A c x blk) (hc : Chg (fun k => some k = blkC) w w') (hC : ∀ g, blkC = some g → g0 ≤ g) (hb : blk ≠ blkC ∨ blkC = none) (h0 : ∀ k, k = D ∨ some k = blkL ∨ (∃ e ∈ es, e.1 = k) ∨ x = .iface 54 (.pointer (some ⟨k, 0, none⟩)) → k < g0) : TS B0 w' D u T es AL cL blkL A c x blk := by
  have key : ∀ k, k < g0 → some k = blkC → False := fun k h1 h2 => by have := hC k h2.symm; omega
  refine h.chg hc (fun k hk hm => ?_) (fun g hg hm => key g (h0 g (.inr (.inl hg.symm))) hm) (fun e he hm => key e.1 (h0 e.1 (.inr (.inr (.inl ⟨e, he, rfl⟩)))) hm) (fun B hB hm => key B (h0 B (.inr (.inr (.inr hB)))) hm)
  rcases hk with hk | hk
  · exact key k (h0 k (.inl hk)) hm
  · rcases hb with hb | hb
    · exact hb (by rw [← hk, hm])
    · rw [hb] at hm; cases hm
theorem TS.push (h : TS B0 w D u T es AL cL blkL A c x blk) {r : List UInt8} {A' : Option Addr} {c' : Nat} {blk' : Option Nat} (hd : DecS w' D (u ++ r) T A' c' x blk') (hc : Chg (decM D blk) w w') (hb : blk' = blk ∨ blk' = some w.heap.size) (h0 : B0 ≤ w.heap.size) : TS B0 w' D (u ++ r) T es AL cL blkL A' c' x blk' := by
  refine ⟨hd, h.o.chg hc h.sep, h.x.chg hc fun e he => (h.far e he).1, fun k hk => ?_, h.gl, fun e he => ⟨fun hk => ?_, (h.far e he).2⟩⟩
  · rcases hk with hk | hk
    · exact h.m k (.inl hk)
    · rcases hb with hb | hb
      · exact h.m k (.inr (by rw [hk, hb]))
      · rw [hb] at hk; injection hk with hk; omega
  · rcases hk with hk | hk
    · exact (h.far e he).1 (.inl hk)
    · rcases hb with hb | hb
      · exact (h.far e he).1 (.inr (by rw [hk, hb]))
      · rw [hb] at hk; injection hk with hk; have := (h.x e he).2.2.1; omega
theorem TS.tell (h : TS B0 w D u T es AL cL blkL A c x blk) {X : List (Nat × Nat) × Int × Nat} {A' : Option Addr} {c' : Nat} {x' : Value} {blk' : Option Nat} (hd : DecS w' D u X A' c' x' blk') (hc : Chg (decM D blk) w w') (hb : blk' = blk ∨ blk' = none) : TS B0 w' D u X es AL cL blkL A' c' x' blk' := by
  have hsub : ∀ k, decM D blk' k → decM D blk k := by
    intro k hk
    rcases hk with hk | hk
    · exact .inl hk
    · rcases hb with hb | hb
      · exact .inr (by rw [hk, hb])
      · rw [hb] at hk; cases hk
  exact ⟨hd, h.o.chg hc h.sep, h.x.chg hc fun e he => (h.far e he).1, fun k hk => h.m k (hsub k hk), h.gl, fun e he => ⟨fun hk => (h.far e he).1 (hsub _ hk), (h.far e he).2⟩⟩
theorem TS.app (h : TS B0 w D u T es AL cL blkL A c x blk) {b1 : Nat} {es' : List Tx} (hx : Txs w b1 es') (h1 : ∀ k, decM D blk k → k < b1) (h2 : ∀ g, blkL = some g → g < b1) (h0 : B0 ≤ b1) {AL' : Option Addr} {cL' : Nat} {blkL' : Option Nat}
    (ho : Own w' 22 1 (.slice AL' (es ++ es').length cL') (es ++ es').length ((es ++ es').map Tx.v) blkL') (hc : Chg (fun k => some k = blkL) w w') (hb : blkL' = blkL ∨ blkL' = some w.heap.size) (hB : B0 ≤ w.heap.size) : TS B0 w' D u T (es ++ es') AL' cL' blkL' A c x blk := by
  have hg : ∀ g, blkL' = some g → blkL = some g ∨ g = w.heap.size := by
    intro g hg
    rcases hb with hb | hb
    · exact .inl (by rw [← hb, hg])
    · rw [hb] at hg; injection hg with hg; exact .inr hg.symm
  refine ⟨Dec.chg h.d hc (fun k hk hm => h.sep k hm.symm hk) (fun B hBx hm => (h.brkB B hBx).2.1 hm), ho, fun e he => ?_, h.m, fun g hgg => ?_, fun e he => ?_⟩
  · rcases List.mem_append.1 he with he | he
    · exact h.x.chg hc (fun e he => (h.far e he).2) e he
    · have h5 := hx.chg hc (fun e he hm => by have := h2 _ hm.symm; have := (hx e he).2.1; omega) e he
      exact ⟨h5.1, by have := h5.2.1; omega, h5.2.2⟩
  · rcases hg g hgg with h5 | h5
    · exact h.gl g h5
    · omega
  · rcases List.mem_append.1 he with he | he
    · refine ⟨(h.far e he).1, fun hm => ?_⟩
      rcases hg _ hm.symm with h5 | h5
      · exact (h.far e he).2 h5.symm
      · have := (h.x e he).2.2.1; omega
    · have h6 := hx e he
      refine ⟨fun hk => by have := h1 _ hk; omega, fun hm => ?_⟩
      rcases hg _ hm.symm with h5 | h5
      · have := h2 _ h5; omega
      · omega
end
/-- What the document tells of any slice of bytes. -/
theorem told02_any (w : World) (A : Option Addr) (n c : Nat) (s : List UInt8) (hb : BytesAt w A s) (hn : s.length = n) (hc : n ≤ c) (hm : n ≤ 1000000) :
    Calls Tryd.prog 11 #[.slice A n c] w fun e w' => ∃ A' c' b off cb, e = .returned (.tuple #[.slice A' (toldF s (s.length + 1) 0).1.length c', .int .i64 (toldF s (s.length + 1) 0).2.1, .int .i64 (toldF s (s.length + 1) 0).2.2]) ∧ Rd w' A' (toldV b off cb (toldF s (s.length + 1) 0).1) ∧ (s = [] ∨ A = some ⟨b, off, none⟩) ∧ Nw w w' ∧ ((toldF s (s.length + 1) 0).1 = [] ∨ ∃ g o, A' = some ⟨g, o, none⟩ ∧ w.heap.size ≤ g) := by
  have e1 : toldF s (s.length + 1) 0 = told s := toldF_fuel _ _ _ _ (by omega) (by omega)
  rw [e1]
  rcases hb with h | ⟨b, off, rfl, h⟩
  · have hs : s = [] := by simpa [bcells] using h
    subst hs
    have hn0 : n = 0 := by simpa using hn.symm
    subst hn0
    refine (Told_none w A c).mono ?_
    rintro e w' ⟨rfl, n⟩
    exact ⟨none, 0, 0, 0, 0, rfl, .inl rfl, .inl rfl, n, .inl rfl⟩
  · refine (Told_own w b off n c s (.inr ⟨b, off, rfl, h⟩) hn hc hm).mono ?_
    rintro e w' ⟨A', c', rfl, hr, nw⟩
    exact ⟨A', c', b, off, c, rfl, hr, .inr rfl, nw.1, nw.2⟩
end Go.Proofs.YtalcafaibmbgjaaDoor
