/- The document's heap: Of; an item put at its place. Helper. -/
import Derived.Test.YtghmldfllieonaaHeapPut
import Derived.Test.YtghmldfllieonaaHeld
namespace Go.Proofs.Ytghmldfllieonaa
open Go.RowKit
set_option linter.unusedVariables false
set_option linter.unusedSimpArgs false
/-- The document's heap in memory. -/
def RefH (W : World) (gR : Nat) (L : List It) (blk : Option Nat) : Prop :=
  ∃ A c, Blk W gR 28 #[.slice A L.length c] ∧ Own W 36 7 (.slice A L.length c) L.length (rowsI L) blk
theorem RefH.new {w w' : World} {gR : Nat} {L : List It} {blk : Option Nat} (h : RefH w gR L blk) (hB : Below w.heap.size w w') : RefH w' gR L blk := by
  obtain ⟨A, c, hb, ho⟩ := h
  exact ⟨A, c, hb.below hB hb.lt, ho.kept fun g hg => hB.block g (ho.lt g hg)⟩
theorem RefH.chg {w w' : World} {gR : Nat} {L : List It} {blk : Option Nat} {M : Nat → Prop} (h : RefH w gR L blk) (hC : Chg M w w') (h1 : ¬ M gR) (h2 : ∀ g, blk = some g → ¬ M g) : RefH w' gR L blk := by
  obtain ⟨A, c, hb, ho⟩ := h
  exact ⟨A, c, hb.chg hC h1, ho.chg hC h2⟩
theorem RefH.lt {w : World} {gR : Nat} {L : List It} {blk : Option Nat} (h : RefH w gR L blk) : gR < w.heap.size ∧ ∀ g, blk = some g → g < w.heap.size := by
  obtain ⟨A, c, hb, ho⟩ := h
  exact ⟨hb.lt, ho.lt⟩
def isN (O N : Int) (x : It) : Prop := x.k.O = O ∧ x.n = N
/-- Where one of a name stands; below 0: it is not there. -/
def OfIs (L : List It) (O N : Int) (r : Int) : Prop := (r = -1 ∧ ∀ x ∈ L, ¬ isN O N x) ∨ ∃ i : Nat, i < L.length ∧ r = (i : Int) ∧ isN O N (g L i)
set_option maxRecDepth 100000
set_option maxHeartbeats 1600000
/-- The cells of an item in the list. -/
theorem RefH.at {w : World} {gR : Nat} {L : List It} {blk : Option Nat} (h : RefH w gR L blk) {k : Nat} (hk : k < L.length) : ∃ b off c, Blk w gR 28 #[.slice (some ⟨b, off, none⟩) L.length c] ∧ L.length ≤ c ∧ c ≤ maxLen ∧ blk = some b ∧ b < w.heap.size ∧ Own w 36 7 (.slice (some ⟨b, off, none⟩) L.length c) L.length (rowsI L) blk := by
  obtain ⟨A, c, hb, hxl, A', c', e1, hnc, hcm, h3 | ⟨b, off, cur, rfl, rfl, hg, hfit, ht⟩⟩ := h
  · injection e1 with _ _ e3; have := h3.1; omega
  · injection e1 with e1 _ e3
    subst e1 e3
    exact ⟨b, off, c, hb, hnc, hcm, rfl, hg.lt, hxl, _, c, rfl, hnc, hcm, .inr ⟨b, off, cur, rfl, rfl, hg, hfit, ht⟩⟩
section
variable (w : World) (gR : Nat) (L : List It) (blk : Option Nat)
theorem refOf_any (h : RefH w gR L blk) (O N : Int) (hl : L.length ≤ 100000) : Calls Try.prog 28 #[.pointer (some ⟨gR, 0, none⟩), .int .i64 O, .int .i64 N] w fun e w' => ∃ r, e = .returned (.int .i64 r) ∧ OfIs L O N r ∧ w' = w := by
  obtain ⟨A, c, hb, ho⟩ := h
  obtain ⟨n, hn⟩ : ∃ n, L.length = n := ⟨_, rfl⟩
  have H0 := Lib.hid (show RefH w gR L blk from ⟨A, c, hb, ho⟩)
  have c0 : w.cell? ⟨gR, 0, none⟩ = some (.slice A n c) := by rw [← hn]; exact (hb.cell 0).trans rfl
  have HN := Lib.hid hn
  rw [hn] at hl
  clear hb ho hn
  go_enter Try.func28, Try.ntmps28
  go_wp2_with fail
  go_loopw [7] (fun i wr => ∃ k : Nat, k ≤ n ∧ i = .int .i64 (k : Int) ∧ wr = w ∧ Hid (∀ j, j < k → ¬ isN O N (g L j))) (fun i _ => n - (intOf i).toNat)
  case atStart => exact ⟨0, by omega, rfl, rfl, Lib.hid (fun j hj => by omega)⟩
  case round =>
    obtain ⟨k, hk, rfl, rfl, HJ⟩ := hrel
    by_cases hlt : k < n
    · have i1 : (k : Int) < (n : Int) := by omega
      obtain ⟨b, off, c', hb2, h1, h2, h3, h4, ho2⟩ := H0.out.at (k := k) (by rw [HN.out]; exact hlt)
      have hce : some (.slice A n c) = some (Value.slice (some ⟨b, off, none⟩) n c') := by rw [← c0, ← HN.out]; exact (hb2.cell 0).trans rfl
      injection hce with hce
      injection hce with hA _ hc
      subst hA hc
      have it := fun j hj => (ho2.item (i := k) (by rw [HN.out]; exact hlt) j hj).1
      have x1 : wr.cell? ⟨b, off + k * 7 + 1, none⟩ = some (.int .i64 (g L k).k.O) := it 1 (by omega)
      have x6 : wr.cell? ⟨b, off + k * 7 + 6, none⟩ = some (.int .i64 (g L k).n) := it 6 (by omega)
      obtain ⟨P, hP⟩ : ∃ P, (g L k).k.O = P := ⟨_, rfl⟩
      obtain ⟨Q, hQ⟩ : ∃ Q, (g L k).n = Q := ⟨_, rfl⟩
      have HPQ := Lib.hid (And.intro hP hQ)
      rw [hP] at x1
      rw [hQ] at x6
      clear hb2 ho2 it hP hQ h1 h2 h3
      have step : ¬ isN O N (g L k) → ∀ j, j < k + 1 → ¬ isN O N (g L j) := fun hne j hj => by
        by_cases e : j = k
        · rw [e]; exact hne
        · exact HJ.out j (by omega)
      have HST := Lib.hid step
      clear step
      by_cases hO : P = O
      · by_cases hN : Q = N
        · have hin : isN O N (g L k) := ⟨HPQ.out.1.trans hO, HPQ.out.2.trans hN⟩
          have HI := Lib.hid hin
          clear hin
          subst hO hN
          go_wp2_with fail
          go_ret
          exact ⟨k, rfl, .inr ⟨k, by rw [HN.out]; exact hlt, rfl, HI.out⟩, rfl⟩
        · have HI := Lib.hid (HST.out (fun h => hN (HPQ.out.2.symm.trans h.2)))
          subst hO
          clear HST
          go_wp2_with fail
          go_roundw
          case rel => exact ⟨k + 1, hlt, by go_num, by first | trivial | rfl, HI⟩
          case measure => simp [intOf]; omega
      · have HI := Lib.hid (HST.out (fun h => hO (HPQ.out.1.symm.trans h.1)))
        clear HST
        go_wp2_with fail
        go_roundw
        case rel => exact ⟨k + 1, hlt, by go_num, by first | trivial | rfl, HI⟩
        case measure => simp [intOf]; omega
    · have i1 : ¬ (k : Int) < (n : Int) := by omega
      obtain rfl : k = n := by omega
      go_wp2_with fail
      go_ret
      refine ⟨-1, rfl, .inl ⟨rfl, fun x hx => ?_⟩, rfl⟩
      obtain ⟨j, hj, e⟩ := List.getElem_of_mem hx
      have := HJ.out j (by rw [← HN.out]; exact hj)
      rwa [g_get L j hj, e] at this
end
end Go.Proofs.Ytghmldfllieonaa
