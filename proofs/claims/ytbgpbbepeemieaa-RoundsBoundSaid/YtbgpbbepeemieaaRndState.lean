/- Rounds in memory: the whole; Half, Number, Colour, Bound, lesser. Helper. -/
import Derived.Test.YtbgpbbepeemieaaRndMem
namespace Go.Proofs.Ytbgpbbepeemieaa
open Go.RowKit
set_option linter.unusedVariables false
set_option linter.unusedSimpArgs false
/-- Rounds, plainly. -/
structure Rn where
  n : Nat
  num : Nat
  half : Nat
  col : Nat → Nat
  seen : List Nat
  least : Nat → Ky
  rep : Ky
  bnd : Ky
  is : Bool
def Rn.cells (r : Rn) (C S L : Nat) : Array Value :=
  #[.int .i64 r.num, .int .i64 r.half, .slice (some ⟨C, 0, none⟩) (r.n + 1) (r.n + 1), .map (some S), .slice (some ⟨L, 0, none⟩) (r.n + 1) (r.n + 1),
    .int .i64 r.rep.T, .int .i64 r.rep.O, .int .i64 r.rep.S, .int .i64 r.bnd.T, .int .i64 r.bnd.O, .int .i64 r.bnd.S, .bool r.is]
/-- Rounds in memory: the struct in block R, the colours in C, who was seen in S, the least keys in L. -/
structure RM (w : World) (R C S L : Nat) (r : Rn) : Prop where
  st : Blk w R 49 (r.cells C S L)
  cs : ∃ a, Blk w C 3 a ∧ ∀ i, i ≤ r.n → a[i]? = some (.int .i64 (r.col i))
  ls : ∃ a, Blk w L 27 a ∧ ∀ i, i ≤ r.n → a[i * 3]? = some (.int .i64 (r.least i).T) ∧ a[i * 3 + 1]? = some (.int .i64 (r.least i).O) ∧ a[i * 3 + 2]? = some (.int .i64 (r.least i).S)
  ms : Sn w S r.seen
  n1 : 1 ≤ r.n
  n16 : r.n ≤ 16
  nm : r.num ≤ 1000000
  hf : r.half ≤ 2
  sn : r.seen.length ≤ r.n
/-- The four blocks. -/
def Four (R C S L : Nat) (k : Nat) : Prop := k = R ∨ k = C ∨ k = S ∨ k = L
theorem RM.lt {w : World} {R C S L : Nat} {r : Rn} (h : RM w R C S L r) : R < w.heap.size ∧ C < w.heap.size ∧ S < w.heap.size ∧ L < w.heap.size := by
  obtain ⟨a, ha, _⟩ := h.cs
  obtain ⟨b, hb, _⟩ := h.ls
  exact ⟨h.st.lt, ha.lt, h.ms.1.lt, hb.lt⟩
theorem RM.kept {w w' : World} {R C S L : Nat} {r : Rn} (h : RM w R C S L r) (hk : ∀ k, Four R C S L k → w'.heap[k]? = w.heap[k]?) : RM w' R C S L r := by
  obtain ⟨a, ha, fa⟩ := h.cs
  obtain ⟨b, hb, fb⟩ := h.ls
  exact ⟨(hk R (.inl rfl)).trans h.st, ⟨a, (hk C (.inr (.inl rfl))).trans ha, fa⟩, ⟨b, (hk L (.inr (.inr (.inr rfl)))).trans hb, fb⟩, h.ms.same (hk S (.inr (.inr (.inl rfl)))), h.n1, h.n16, h.nm, h.hf, h.sn⟩
theorem RM.new {w w' : World} {R C S L : Nat} {r : Rn} (h : RM w R C S L r) (hB : Below w.heap.size w w') : RM w' R C S L r := by
  obtain ⟨h1, h2, h3, h4⟩ := h.lt
  exact h.kept fun k hk => hB.block k (by rcases hk with rfl | rfl | rfl | rfl <;> assumption)
theorem RM.ne {w : World} {R C S L : Nat} {r : Rn} (h : RM w R C S L r) : R ≠ C ∧ R ≠ S ∧ R ≠ L ∧ C ≠ S ∧ C ≠ L ∧ S ≠ L := by
  obtain ⟨a, ha, _⟩ := h.cs
  obtain ⟨b, hb, _⟩ := h.ls
  obtain ⟨es, clock, hm, _⟩ := h.ms.obj
  have nm : ∀ g t cs, Blk w g t cs → g ≠ S := by
    rintro g t cs hg rfl
    unfold Blk at hg
    rw [hg] at hm
    injection hm with hm
    cases hm
  exact ⟨h.st.ne_ ha (by decide), nm _ _ _ h.st, h.st.ne_ hb (by decide), nm _ _ _ ha, ha.ne_ hb (by decide), fun e => nm _ _ _ hb e.symm⟩
theorem RM.f0 {w : World} {R C S L : Nat} {r : Rn} (h : RM w R C S L r) : w.cell? ⟨R, 0, none⟩ = some (.int .i64 r.num) := h.st.cell 0
theorem RM.f1 {w : World} {R C S L : Nat} {r : Rn} (h : RM w R C S L r) : w.cell? ⟨R, 1, none⟩ = some (.int .i64 r.half) := h.st.cell 1
theorem RM.f2 {w : World} {R C S L : Nat} {r : Rn} (h : RM w R C S L r) : w.cell? ⟨R, 2, none⟩ = some (.slice (some ⟨C, 0, none⟩) (r.n + 1) (r.n + 1)) := h.st.cell 2
theorem RM.f3 {w : World} {R C S L : Nat} {r : Rn} (h : RM w R C S L r) : w.cell? ⟨R, 3, none⟩ = some (.map (some S)) := h.st.cell 3
theorem RM.f4 {w : World} {R C S L : Nat} {r : Rn} (h : RM w R C S L r) : w.cell? ⟨R, 4, none⟩ = some (.slice (some ⟨L, 0, none⟩) (r.n + 1) (r.n + 1)) := h.st.cell 4
theorem RM.fr {w : World} {R C S L : Nat} {r : Rn} (h : RM w R C S L r) : w.cell? ⟨R, 5, none⟩ = some (.int .i64 r.rep.T) ∧ w.cell? ⟨R, 6, none⟩ = some (.int .i64 r.rep.O) ∧ w.cell? ⟨R, 7, none⟩ = some (.int .i64 r.rep.S) := ⟨h.st.cell 5, h.st.cell 6, h.st.cell 7⟩
theorem RM.fb {w : World} {R C S L : Nat} {r : Rn} (h : RM w R C S L r) : w.cell? ⟨R, 8, none⟩ = some (.int .i64 r.bnd.T) ∧ w.cell? ⟨R, 9, none⟩ = some (.int .i64 r.bnd.O) ∧ w.cell? ⟨R, 10, none⟩ = some (.int .i64 r.bnd.S) := ⟨h.st.cell 8, h.st.cell 9, h.st.cell 10⟩
theorem RM.f11 {w : World} {R C S L : Nat} {r : Rn} (h : RM w R C S L r) : w.cell? ⟨R, 11, none⟩ = some (.bool r.is) := h.st.cell 11
theorem none_any (R C S L : Nat) (r : Rn) (w : World) (h : RM w R C S L r) :
    Calls Try.prog 22 #[.pointer (some ⟨R, 0, none⟩)] w fun e w' => e = .returned (.bool false) ∧ w' = w := by
  have c2 := h.f2
  have hn := h.n16
  clear h
  go_enter Try.func22, Try.ntmps22
  go_wp2
  go_ret
  exact ⟨rfl, rfl⟩
theorem none_nil (w : World) : Calls Try.prog 22 #[.pointer none] w fun e w' => e = .returned (.bool true) ∧ w' = w := by
  go_enter Try.func22, Try.ntmps22
  go_wp2
  go_ret
  exact ⟨rfl, rfl⟩
theorem none_zero (Z : Nat) (w : World) (h : w.cell? ⟨Z, 2, none⟩ = some (.slice none 0 0)) : Calls Try.prog 22 #[.pointer (some ⟨Z, 0, none⟩)] w fun e w' => e = .returned (.bool true) ∧ w' = w := by
  go_enter Try.func22, Try.ntmps22
  go_wp2
  go_ret
  exact ⟨rfl, rfl⟩
theorem half_any (R C S L : Nat) (r : Rn) (w : World) (h : RM w R C S L r) :
    Calls Try.prog 11 #[.pointer (some ⟨R, 0, none⟩)] w fun e w' => e = .returned (.int .i64 r.half) ∧ w' = w := by
  have k := Lib.hid (none_any R C S L r w h)
  have c1 := h.f1
  clear h
  go_enter Try.func11, Try.ntmps11
  go_wp2_with fail
  refine k.out.mono ?_
  rintro e w1 ⟨rfl, rfl⟩
  go_wp2
  go_ret
  exact ⟨rfl, rfl⟩
theorem number_any (R C S L : Nat) (r : Rn) (w : World) (h : RM w R C S L r) :
    Calls Try.prog 14 #[.pointer (some ⟨R, 0, none⟩)] w fun e w' => e = .returned (.int .i64 r.num) ∧ w' = w := by
  have k := Lib.hid (none_any R C S L r w h)
  have c0 := h.f0
  clear h
  go_enter Try.func14, Try.ntmps14
  go_wp2_with fail
  refine k.out.mono ?_
  rintro e w1 ⟨rfl, rfl⟩
  go_wp2
  go_ret
  exact ⟨rfl, rfl⟩
/-- A process's colour, 0 where there is none. -/
def Rn.colour (r : Rn) (p : Int) : Nat := if 0 ≤ p ∧ p ≤ r.n then r.col p.toNat else 0
theorem colour_any (R C S L : Nat) (r : Rn) (p : Int) (w : World) (h : RM w R C S L r) :
    Calls Try.prog 13 #[.pointer (some ⟨R, 0, none⟩), .int .i64 p] w fun e w' => e = .returned (.int .i64 (r.colour p)) ∧ w' = w := by
  have k := Lib.hid (none_any R C S L r w h)
  have c2 := h.f2
  have hn := h.n16
  obtain ⟨a, ha, fa⟩ := h.cs
  unfold Rn.colour
  by_cases h1 : p < 0
  · rw [if_neg (by omega)]
    clear h fa
    go_enter Try.func13, Try.ntmps13
    go_wp2_with fail
    refine k.out.mono ?_
    rintro e w1 ⟨rfl, rfl⟩
    go_wp2
    go_ret
    exact ⟨rfl, rfl⟩
  · obtain ⟨q, rfl⟩ := Int.eq_ofNat_of_zero_le (show 0 ≤ p by omega)
    by_cases h2 : q ≤ r.n
    · rw [if_pos (by omega)]
      have cq : w.cell? ⟨C, q, none⟩ = some (.int .i64 (r.col q)) := (ha.cell q).trans (fa q h2)
      have g1 : (q : Int) < (r.n : Int) + 1 := by omega
      have g2 : ¬ (r.n : Int) + 1 ≤ (q : Int) := by omega
      clear h fa
      go_enter Try.func13, Try.ntmps13
      go_wp2_with fail
      refine k.out.mono ?_
      rintro e w1 ⟨rfl, rfl⟩
      go_wp2
      go_ret
      exact ⟨rfl, rfl⟩
    · rw [if_neg (by omega)]
      have g2 : (r.n : Int) + 1 ≤ (q : Int) := by omega
      clear h fa
      go_enter Try.func13, Try.ntmps13
      go_wp2_with fail
      refine k.out.mono ?_
      rintro e w1 ⟨rfl, rfl⟩
      go_wp2
      go_ret
      exact ⟨rfl, rfl⟩
end Go.Proofs.Ytbgpbbepeemieaa
