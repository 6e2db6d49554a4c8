/- Pools of messages, each the zero one but for its Serial: New, Put, Len, At. Helper. -/
import Derived.Test.YtjlcjlheebphcaaProg
import Derived.Test.YtjlcjlheebphcaaMore
import Derived.Test.YtjlcjlheebphcaaSlices
import Derived.Deep.RegionHeld3
import Derived.Deep.RegionWith
import Derived.Deep.RegionLaw
import Derived.Outline
namespace Go.Proofs.Ytjlcjlheebphcaa
open Go.RowKit
set_option linter.unusedVariables false
set_option linter.unusedSimpArgs false
theorem Own.tyB {w : World} {e : TypeId} {size : Nat} {v : Value} {n : Nat} {xs : List Value} {blk : Option Nat} (h : Own w e size v n xs blk) : ∀ g, blk = some g → ∃ cur, Blk w g e cur := by
  intro g hb
  obtain ⟨hl, A, c, rfl, hn, hm, h | ⟨g', off, cur, rfl, hb', hg, h1, h2⟩⟩ := h
  · rw [h.2] at hb; cases hb
  · rw [hb'] at hb; cases hb; exact ⟨cur, hg⟩
theorem rd_last_row (w : World) (t : TypeId) (l : List Value) : Rd (w.alloc (.cells l.toArray t)) (some ⟨w.heap.size, 0, none⟩) l :=
  .inr ⟨w.heap.size, 0, rfl, fun j u hu => by rw [cell_of_row _ _ _ _ t (0, 0) (heap_alloc_last w _)]; simpa using hu⟩
theorem rd_last_row_at (w : World) (t : TypeId) (l : List Value) (n : Nat) (hn : w.heap.size = n) : Rd (w.alloc (.cells l.toArray t)).drew (some ⟨n, 0, none⟩) l := by subst hn; exact rd_last_row w t l
/-- A message's cells: zero but for its Serial. -/
def msgC (i : Int) : List Value := [.int .i64 0, .int .i64 0, .int .i64 0, .int .i64 0, .int .i64 0, .int .i64 0, .int .i64 i, .bool false, .bool false, .int .i64 0]
theorem msgC_one (i : Int) : ∀ u ∈ msgC i, u.oneCell' = true := by
  intro u hu; simp only [msgC, List.mem_cons, List.not_mem_nil, or_false] at hu
  rcases hu with rfl | rfl | rfl | rfl | rfl | rfl | rfl | rfl | rfl | rfl <;> rfl
def cellsL (L : List Int) : List Value := L.flatMap msgC
theorem cellsL_append (a b : List Int) : cellsL (a ++ b) = cellsL a ++ cellsL b := by simp [cellsL]
theorem cellsL_one (i : Int) : cellsL [i] = msgC i := by simp [cellsL]
theorem cellsL_length (L : List Int) : (cellsL L).length = L.length * 10 := by
  induction L with
  | nil => rfl
  | cons a L ih => rw [show a :: L = [a] ++ L from rfl, cellsL_append, List.length_append, ih, cellsL_one, List.length_append]; simp [msgC]; omega
theorem cellsL_drop (L : List Int) (k : Nat) : (cellsL L).drop (k * 10) = cellsL (L.drop k) := by
  induction L generalizing k with
  | nil => simp [cellsL]
  | cons a L ih =>
    cases k with
    | zero => simp
    | succ k =>
      rw [show a :: L = [a] ++ L from rfl, cellsL_append, cellsL_one, show (k + 1) * 10 = (msgC a).length + k * 10 by simp [msgC]; omega, List.drop_append, Nat.add_sub_cancel_left, ih, List.drop_eq_nil_of_le (by omega)]
      rfl
theorem cellsL_take (L : List Int) (k : Nat) : (cellsL L).take (k * 10) = cellsL (L.take k) := by
  induction L generalizing k with
  | nil => simp [cellsL]
  | cons a L ih =>
    cases k with
    | zero => simp [cellsL]
    | succ k =>
      rw [show a :: L = [a] ++ L from rfl, cellsL_append, cellsL_one, show (k + 1) * 10 = (msgC a).length + k * 10 by simp [msgC]; omega, List.take_append, Nat.add_sub_cancel_left, ih, List.take_of_length_le (by omega)]
      simp [cellsL]
theorem cellsL_get (L : List Int) (k : Nat) (hk : k < L.length) (j : Nat) (hj : j < 10) : (cellsL L)[k * 10 + j]? = (msgC L[k])[j]? := by
  have e : ((cellsL L).drop (k * 10))[j]? = (cellsL L)[k * 10 + j]? := List.getElem?_drop
  rw [← e, cellsL_drop, List.drop_eq_getElem_cons hk, show L[k] :: L.drop (k + 1) = [L[k]] ++ L.drop (k + 1) from rfl, cellsL_append, cellsL_one, List.getElem?_append_left (by simp [msgC]; omega)]
theorem cellsL_mem (L : List Int) : ∀ u ∈ cellsL L, u.oneCell' = true := by
  intro u hu
  simp only [cellsL, List.mem_flatMap] at hu
  obtain ⟨i, _, h⟩ := hu
  exact msgC_one i u h
theorem infoMsg : (Try.prog.info? 33).map (fun i => (i.zero, i.size, i.bytes)) = some (some (.agg #[.int .i64 0, .int .i64 0, .int .i64 0, .int .i64 0, .int .i64 0, .int .i64 0, .int .i64 0, .bool false, .bool false, .int .i64 0]), 10, 72) := by kernel_rfl
/-- A pool in memory. -/
def PoolAt (w : World) (g : Nat) (L : List Int) (k : Int) (blk : Option Nat) : Prop :=
  ∃ v, Blk w g 42 #[v, .int .i64 k] ∧ Own w 33 10 v L.length (cellsL L) blk
/-- What an act on a pool may turn. -/
def PTurn (g : Nat) (blk : Option Nat) : Nat → Prop := fun k => k = g ∨ some k = blk
section
variable (g : Nat) (L : List Int) (k : Int) (blk : Option Nat) (w : World)
set_option maxRecDepth 100000
set_option maxHeartbeats 1600000
theorem new_any : Calls Try.prog 5 #[] w fun e w' => ∃ g, e = .returned (.pointer (some ⟨g, 0, none⟩)) ∧ w.heap.size ≤ g ∧ Below w.heap.size w w' ∧ PoolAt w' g [] 0 none := by
  go_enter Try.func5, Try.ntmps5
  go_wp2
  go_ret
  exact ⟨_, rfl, Nat.le_refl _, (Below.refl _ w).alloc (Nat.le_refl _) _, _, Blk.last _ _ _ rfl, Own.nil _ _ _⟩
theorem len_any (h : PoolAt w g L k blk) : Calls Try.prog 8 #[.pointer (some ⟨g, 0, none⟩)] w fun e w' => e = .returned (.int .i64 (L.length : Int)) ∧ w' = w := by
  obtain ⟨v, hb, ho⟩ := h
  obtain ⟨A, c, rfl, _, hc, hm⟩ := ho.rd
  have c0 : w.cell? ⟨g, 0, none⟩ = some (.slice A L.length c) := (hb.cell 0).trans rfl
  clear hb ho
  go_enter Try.func8, Try.ntmps8
  go_wp2
  go_ret
  exact ⟨rfl, rfl⟩
theorem put_full (h : PoolAt w g L k blk) (hl : 131072 ≤ L.length) (i : Int) :
    Calls Try.prog 6 #[.pointer (some ⟨g, 0, none⟩), .agg (msgC i).toArray] w fun e w' => e = .returned (.tuple #[.int .i64 0, .int .i64 5]) ∧ Below w.heap.size w w' := by
  obtain ⟨v, hb, ho⟩ := h
  obtain ⟨A, c, rfl, _, hc, hm⟩ := ho.rd
  have c0 : w.cell? ⟨g, 0, none⟩ = some (.slice A L.length c) := (hb.cell 0).trans rfl
  have hlt := hb.lt
  clear hb ho
  have k1 : (131072 : Int) ≤ (L.length : Int) := by omega
  unfold msgC
  go_enter Try.func6, Try.ntmps6
  go_wp2_with fail
  go_ret2
  exact ⟨rfl, (Below.refl _ w).alloc (Nat.le_refl _) _⟩
theorem put_any (h : PoolAt w g L k blk) (hl : L.length < 131072) (hk : 0 ≤ k ∧ k ≤ 4294967295) (i : Int) :
    Calls Try.prog 6 #[.pointer (some ⟨g, 0, none⟩), .agg (msgC i).toArray] w fun e w' => e = .returned (.tuple #[.int .i64 k, .int .i64 0]) ∧
      ∃ blk', PoolAt w' g (L ++ [i]) (k + 1) blk' ∧ Chg (PTurn g blk) w w' ∧ (blk' = blk ∨ ∃ b, blk' = some b ∧ w.heap.size ≤ b) := by
  obtain ⟨v, hb, ho⟩ := h
  obtain ⟨i0, hi0, hz0, hz1, hz2⟩ := info_parts infoMsg
  have HL1 := Lib.hid hi0
  have HL2 := Lib.hid hz0
  have HL3 := Lib.hid hz1
  have HL4 := Lib.hid hz2
  clear hi0 hz0 hz1 hz2
  obtain ⟨A, c, rfl, _, hc, hm⟩ := ho.rd
  have c0 : w.cell? ⟨g, 0, none⟩ = some (.slice A L.length c) := (hb.cell 0).trans rfl
  have c1 : w.cell? ⟨g, 1, none⟩ = some (.int .i64 k) := (hb.cell 1).trans rfl
  have f0 := hb.frozen 0
  have f1 := hb.frozen 1
  have hlt := hb.lt
  have HB := Lib.hid hb
  have HO := Lib.hid ho
  have hne : blk ≠ some g := fun e => by obtain ⟨cur, hc⟩ := ho.tyB g e; exact absurd rfl (hc.ne_ hb (by decide))
  have HNE := Lib.hid hne
  clear hb ho hne hm hc
  obtain ⟨n, hn⟩ : ∃ n, L.length = n := ⟨_, rfl⟩
  have HN := Lib.hid hn
  rw [hn] at hl c0
  have k1 : ¬ (131072 : Int) ≤ (n : Int) := by omega
  have k2 : (n : Int) < 131072 := by omega
  have HOn : Own w 33 10 (.slice A n c) n (cellsL L) blk := by have := HO.out; rw [hn] at this; exact this
  have HO2 := Lib.hid HOn
  have he : msgC i = [.int .i64 0, .int .i64 0, .int .i64 0, .int .i64 0, .int .i64 0, .int .i64 0, .int .i64 i, .bool false, .bool false, .int .i64 0] := rfl
  have HE := Lib.hid he
  rw [he]
  clear he hn HO HOn
  go_enter Try.func6, Try.ntmps6
  go_upto_region 5 with (fail)
  go_region_law (refine step_append_at _ (by rfl) _ _ _ (by rfl) 33 i0 _ 10 72 Try.underlying38 HL1.out HL2.out HL3.out HL4.out rfl (by omega) _ n (cellsL L) blk (by rfl) (HO2.out.kept (fun g hg => (Below.heap_alloc _ _ _ (by have := HO2.out.lt g hg; simp; omega)).trans (Below.heap_alloc _ _ _ (HO2.out.lt g hg)))) _ 1 1 [.int .i64 0, .int .i64 0, .int .i64 0, .int .i64 0, .int .i64 0, .int .i64 0, .int .i64 i, .bool false, .bool false, .int .i64 0] (by rfl) (by rfl) (rd_last_row_at _ _ [.int .i64 0, .int .i64 0, .int .i64 0, .int .i64 0, .int .i64 0, .int .i64 0, .int .i64 i, .bool false, .bool false, .int .i64 0] _ (by simp)) (msgC_one i) (by simp only [maxLen]; omega) (by omega) ?_; intro A2 c2 w6 SB2 hown2 hchg hat2; have hb6 : Blk w6 g 42 _ := (((HB.out.alloc _).alloc _).drew).chg hchg (fun h => HNE.out h.symm); have hc6 : w6.cell? ⟨g, 0, none⟩ = some (.slice A n c) := (hb6.cell 0).trans (by rw [HN.out]; rfl); have hd6 : w6.cell? ⟨g, 1, none⟩ = some (.int .i64 k) := (hb6.cell 1).trans rfl; have hf6 := hb6.frozen 0; have hg6 := hb6.frozen 1)
  all_goals
    have HC6 := Lib.hid hchg
    have HO6 := Lib.hid hown2
    have HB6 := Lib.hid hb6
    have HA6 := Lib.hid hat2
    clear hchg hown2 hb6 hat2
    have hk1 := hk.1
    have hk2 := hk.2
    go_wp2_with fail
    go_ret2
    have hk3 : k + 1 - 1 = k := by omega
    refine ⟨by simp [hk3], SB2, ⟨.slice A2 (n + 1) c2, ?_, ?_⟩, ?_, ?_⟩
    · exact (HB6.out.set_ 0 (.slice A2 (n + 1) c2)).set_ 1 (.int .i64 (k + 1))
    · rw [List.length_append, HN.out, cellsL_append, cellsL_one, HE.out]
      exact HO6.out.kept fun g' hg => by
        have hg' : g' ≠ g := by
          rintro rfl
          obtain ⟨cur, hc⟩ := HO6.out.tyB _ hg
          exact absurd rfl (hc.ne_ HB6.out (by decide))
        rw [Below.heap_setCell _ _ _ _ hg', Below.heap_setCell _ _ _ _ hg']
    · exact (((((Chg.refl (PTurn g blk) w).alloc _).alloc _).drew.trans HC6.out (fun j hj h => .inr h)).setCell (p := ⟨g, 0, none⟩) (.inl (.inl rfl)) _).setCell (p := ⟨g, 1, none⟩) (.inl (.inl rfl)) _
    · rcases HA6.out with h | h
      · exact .inl h
      · exact .inr ⟨_, h, by simp; omega⟩
end
end Go.Proofs.Ytjlcjlheebphcaa
