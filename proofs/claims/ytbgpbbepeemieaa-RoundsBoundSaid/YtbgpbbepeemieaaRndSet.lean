/- Rounds: what each store does. Helper. -/
import Derived.Test.YtbgpbbepeemieaaRndLess
namespace Go.Proofs.Ytbgpbbepeemieaa
open Go.RowKit
set_option linter.unusedVariables false
set_option linter.unusedSimpArgs false
theorem Chg.one {M : Nat → Prop} {w : World} {p : Addr} (hp : M p.block) (u : Value) : Chg M w (w.setCell p u) := (Chg.refl M w).setCell (.inl hp) u
theorem RM.st_set {w : World} {R C S L : Nat} {r r' : Rn} (h : RM w R C S L r) {w' : World} (hc : Chg (fun k => k = R) w w') (hb : Blk w' R 49 (r'.cells C S L))
    (e1 : r'.n = r.n) (e2 : r'.col = r.col) (e3 : r'.seen = r.seen) (e4 : r'.least = r.least) (h1 : r'.num ≤ 1000000) (h2 : r'.half ≤ 2) : RM w' R C S L r' := by
  obtain ⟨n1, n2, n3, _, _, _⟩ := h.ne
  obtain ⟨a, ha, fa⟩ := h.cs
  obtain ⟨b, hb2, fb⟩ := h.ls
  exact ⟨hb, ⟨a, ha.chg hc (fun e => n1 e.symm), by rw [e1, e2]; exact fa⟩, ⟨b, hb2.chg hc (fun e => n3 e.symm), by rw [e1, e4]; exact fb⟩,
    by rw [e3]; exact h.ms.same (hc.block S h.ms.1.lt (fun e => n2 e.symm)), by rw [e1]; exact h.n1, by rw [e1]; exact h.n16, h1, h2, by rw [e1, e3]; exact h.sn⟩
theorem RM.set0 {w : World} {R C S L : Nat} {r : Rn} (h : RM w R C S L r) (v : Nat) (hv : v ≤ 1000000) : RM (w.setCell ⟨R, 0, none⟩ (.int .i64 (v : Int))) R C S L { r with num := v } :=
  h.st_set (Chg.one (M := fun k => k = R) rfl _) (h.st.set_ 0 _) rfl rfl rfl rfl hv h.hf
theorem RM.set1 {w : World} {R C S L : Nat} {r : Rn} (h : RM w R C S L r) (v : Nat) (hv : v ≤ 2) : RM (w.setCell ⟨R, 1, none⟩ (.int .i64 (v : Int))) R C S L { r with half := v } :=
  h.st_set (Chg.one (M := fun k => k = R) rfl _) (h.st.set_ 1 _) rfl rfl rfl rfl h.nm hv
theorem RM.setRep {w : World} {R C S L : Nat} {r : Rn} (h : RM w R C S L r) (k : Ky) : RM (((w.setCell ⟨R, 5, none⟩ (.int .i64 k.T)).setCell ⟨R, 6, none⟩ (.int .i64 k.O)).setCell ⟨R, 7, none⟩ (.int .i64 k.S)) R C S L { r with rep := k } :=
  h.st_set ((((Chg.refl (fun k => k = R) w).setCell (p := ⟨R, 5, none⟩) (.inl rfl) _).setCell (p := ⟨R, 6, none⟩) (.inl rfl) _).setCell (p := ⟨R, 7, none⟩) (.inl rfl) _) (((h.st.set_ 5 _).set_ 6 _).set_ 7 _) rfl rfl rfl rfl h.nm h.hf
theorem RM.setBnd {w : World} {R C S L : Nat} {r : Rn} (h : RM w R C S L r) (k : Ky) : RM ((((w.setCell ⟨R, 8, none⟩ (.int .i64 k.T)).setCell ⟨R, 9, none⟩ (.int .i64 k.O)).setCell ⟨R, 10, none⟩ (.int .i64 k.S)).setCell ⟨R, 11, none⟩ (.bool true)) R C S L { r with bnd := k, is := true } :=
  h.st_set (((((Chg.refl (fun k => k = R) w).setCell (p := ⟨R, 8, none⟩) (.inl rfl) _).setCell (p := ⟨R, 9, none⟩) (.inl rfl) _).setCell (p := ⟨R, 10, none⟩) (.inl rfl) _).setCell (p := ⟨R, 11, none⟩) (.inl rfl) _) ((((h.st.set_ 8 _).set_ 9 _).set_ 10 _).set_ 11 _) rfl rfl rfl rfl h.nm h.hf
theorem RM.setC {w : World} {R C S L : Nat} {r : Rn} (h : RM w R C S L r) {p : Nat} (hp : p ≤ r.n) (v : Nat) : RM (w.setCell ⟨C, p, none⟩ (.int .i64 (v : Int))) R C S L { r with col := fun i => if i = p then v else r.col i } := by
  obtain ⟨n1, n2, n3, n4, n5, _⟩ := h.ne
  obtain ⟨a, ha, fa⟩ := h.cs
  obtain ⟨b, hb2, fb⟩ := h.ls
  have hsz : p < a.size := by
    rcases Nat.lt_or_ge p a.size with g | g
    · exact g
    · have := fa p hp; rw [Array.getElem?_eq_none g] at this; cases this
  refine ⟨h.st.far (p := ⟨C, p, none⟩) n1 _, ⟨_, ha.set_ p _, fun i hi => ?_⟩, ⟨b, hb2.far (p := ⟨C, p, none⟩) (fun e => n5 e.symm) _, fb⟩, h.ms.same (Below.heap_setCell w ⟨C, p, none⟩ _ S (fun e => n4 e.symm)), h.n1, h.n16, h.nm, h.hf, h.sn⟩
  rw [Array.getElem?_setIfInBounds]
  dsimp only
  by_cases e : i = p
  · subst e; simp [hsz]
  · rw [if_neg (fun g => e g.symm), if_neg e]; exact fa i hi
theorem RM.setL {w : World} {R C S L : Nat} {r : Rn} (h : RM w R C S L r) {p : Nat} (hp : p ≤ r.n) (k : Ky) : RM (((w.setCell ⟨L, p * 3, none⟩ (.int .i64 k.T)).setCell ⟨L, p * 3 + 1, none⟩ (.int .i64 k.O)).setCell ⟨L, p * 3 + 2, none⟩ (.int .i64 k.S)) R C S L { r with least := fun i => if i = p then k else r.least i } := by
  obtain ⟨n1, n2, n3, n4, n5, n6⟩ := h.ne
  obtain ⟨a, ha, fa⟩ := h.cs
  obtain ⟨b, hb2, fb⟩ := h.ls
  have hc : Chg (fun k => k = L) w (((w.setCell ⟨L, p * 3, none⟩ (.int .i64 k.T)).setCell ⟨L, p * 3 + 1, none⟩ (.int .i64 k.O)).setCell ⟨L, p * 3 + 2, none⟩ (.int .i64 k.S)) := (((Chg.refl (fun k => k = L) w).setCell (p := ⟨L, _, none⟩) (.inl rfl) _).setCell (p := ⟨L, _, none⟩) (.inl rfl) _).setCell (p := ⟨L, _, none⟩) (.inl rfl) _
  have hsz : p * 3 + 2 < b.size := by
    rcases Nat.lt_or_ge (p * 3 + 2) b.size with g | g
    · exact g
    · have := (fb p hp).2.2; rw [Array.getElem?_eq_none g] at this; cases this
  refine ⟨h.st.chg hc n3, ⟨a, ha.chg hc n5, fa⟩, ⟨_, ((hb2.set_ (p * 3) _).set_ (p * 3 + 1) _).set_ (p * 3 + 2) _, fun i hi => ?_⟩, h.ms.same (hc.block S h.ms.1.lt n6), h.n1, h.n16, h.nm, h.hf, h.sn⟩
  obtain ⟨f0, f1, f2⟩ := fb i hi
  simp only [Array.getElem?_setIfInBounds, Array.size_setIfInBounds]
  by_cases e : i = p
  · subst e
    refine ⟨?_, ?_, ?_⟩
    · rw [if_neg (by omega), if_neg (by omega)]; simp; omega
    · rw [if_neg (by omega)]; simp; omega
    · simp; omega
  · refine ⟨?_, ?_, ?_⟩
    · rw [if_neg (by omega), if_neg (by omega), if_neg (by omega), if_neg e]; exact f0
    · rw [if_neg (by omega), if_neg (by omega), if_neg (by omega), if_neg e]; exact f1
    · rw [if_neg (by omega), if_neg (by omega), if_neg (by omega), if_neg e]; exact f2
theorem RM.setS {w w' : World} {R C S L : Nat} {r : Rn} (h : RM w R C S L r) {l : List Nat} (hs : Sn w' S l) (hc : Chg (fun k => k = S) w w') (hl : l.length ≤ r.n) : RM w' R C S L { r with seen := l } := by
  obtain ⟨n1, n2, n3, n4, n5, n6⟩ := h.ne
  obtain ⟨a, ha, fa⟩ := h.cs
  obtain ⟨b, hb2, fb⟩ := h.ls
  exact ⟨h.st.chg hc n2, ⟨a, ha.chg hc n4, fa⟩, ⟨b, hb2.chg hc (fun e => n6 e.symm), fb⟩, hs, h.n1, h.n16, h.nm, h.hf, hl⟩
theorem RM.frz {w : World} {R C S L : Nat} {r : Rn} (h : RM w R C S L r) : (∀ k, w.frozen? ⟨R, k, none⟩ = false) ∧ (∀ k, w.frozen? ⟨C, k, none⟩ = false) ∧ ∀ k, w.frozen? ⟨L, k, none⟩ = false := by
  obtain ⟨a, ha, fa⟩ := h.cs
  obtain ⟨b, hb2, fb⟩ := h.ls
  exact ⟨fun k => h.st.frozen k, fun k => ha.frozen k, fun k => hb2.frozen k⟩
theorem RM.colAt {w : World} {R C S L : Nat} {r : Rn} (h : RM w R C S L r) {p : Nat} (hp : p ≤ r.n) : w.cell? ⟨C, p, none⟩ = some (.int .i64 (r.col p)) := by
  obtain ⟨a, ha, fa⟩ := h.cs
  exact (ha.cell p).trans (fa p hp)
theorem RM.leastAt {w : World} {R C S L : Nat} {r : Rn} (h : RM w R C S L r) {p : Nat} (hp : p ≤ r.n) : w.cell? ⟨L, p * 3, none⟩ = some (.int .i64 (r.least p).T) ∧ w.cell? ⟨L, p * 3 + 1, none⟩ = some (.int .i64 (r.least p).O) ∧ w.cell? ⟨L, p * 3 + 2, none⟩ = some (.int .i64 (r.least p).S) := by
  obtain ⟨b, hb2, fb⟩ := h.ls
  exact ⟨(hb2.cell _).trans (fb p hp).1, (hb2.cell _).trans (fb p hp).2.1, (hb2.cell _).trans (fb p hp).2.2⟩
end Go.Proofs.Ytbgpbbepeemieaa
