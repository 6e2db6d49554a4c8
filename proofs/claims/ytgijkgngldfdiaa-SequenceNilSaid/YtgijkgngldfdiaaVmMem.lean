/- An append of one cell in place, in a block of whatever type. Helper. -/
import Derived.Test.YtgijkgngldfdiaaMore
namespace Go.Proofs.Ytgijkgngldfdiaa
open Go.RowKit
set_option linter.unusedVariables false
set_option linter.unusedSimpArgs false
theorem set_eq_splice (cur : List Value) (k : Nat) (u : Value) (h : k < cur.length) : (cur.take k ++ [u] ++ cur.drop (k + 1)) = cur.set k u := by
  rw [List.append_assoc]
  apply List.ext_getElem?
  intro i
  rw [List.getElem?_set]
  by_cases h1 : i < k
  · rw [List.getElem?_append_left (by rw [List.length_take]; omega), List.getElem?_take, if_pos h1, if_neg (by omega)]
  · rw [List.getElem?_append_right (by rw [List.length_take]; omega), List.length_take, Nat.min_eq_left (by omega)]
    by_cases h2 : i = k
    · subst h2; simp [h]
    · rw [if_neg (by omega)]
      obtain ⟨j, rfl⟩ : ∃ j, i = k + 1 + j := ⟨i - (k + 1), by omega⟩
      rw [show k + 1 + j - k = j + 1 by omega]
      simp
section
variable {P : Program} (w : World)
theorem run_append_one_in (t ty e tt : TypeId) (i : TypeInfo) (ht : P.underlying t = some (.slice e)) (hi : P.info? e = some i) (hsize : i.size = 1)
    (g off n cap : Nat) (cur : Array Value) (hg : Blk w g tt cur) (hfit : off + n < cur.size) (hroom : n + 1 ≤ cap)
    (b off0 c : Nat) (u : Value) (hs : w.cell? ⟨b, off0, none⟩ = some u) (h1 : u.oneCell' = true) :
    ∃ w', (Builtin.append_ #[t, t] ty #[.slice (some ⟨g, off, none⟩) n cap, .slice (some ⟨b, off0, none⟩) 1 c]).run P w = .ok (.slice (some ⟨g, off, none⟩) (n + 1) cap) w' ∧ Blk w' g tt (cur.setIfInBounds (off + n) u) ∧ Chg (fun k => k = g) w w' := by
  have hnews : ∀ j v, [u][j]? = some v → w.cell? ((⟨b, off0, none⟩ : Addr).add j) = some v := fun j v hv => by
    rw [add_plain]
    match j, hv with
    | 0, hv => simp at hv; subst hv; exact hs
  have hf := run_firstCells_some (P := P) w i.size 1 ⟨b, off0, none⟩ 1 c [u] (by rw [hsize]; rfl) hnews
  have hst := run_storeCells_at P g (off + n * i.size) tt [u] 0 cur w hg (by rw [hsize]; simp; omega) (by simpa using h1)
  simp only [Nat.add_zero] at hst
  refine ⟨w.setRow g (cur.toList.take (off + n * i.size) ++ [u] ++ cur.toList.drop (off + n * i.size + [u].length)).toArray, ?_, ?_, ?_⟩
  rotate_left
  · exact setRow_heap w g cur (cur.toList.take (off + n * i.size) ++ [u] ++ cur.toList.drop (off + n * i.size + [u].length)).toArray tt _ hg |>.trans (by
      congr 2
      rw [hsize, Nat.mul_one]
      apply Array.ext'
      simp only [List.length_singleton, Array.toList_setIfInBounds]
      exact set_eq_splice cur.toList (off + n) u (by simpa using hfit))
  · exact Chg.setRow (M := fun k => k = g) (Chg.refl _ w) (.inl rfl) _
  · simp [Builtin.append_, run_underlying ht, sizeOf, typeInfo, hi, Builtin.lenOf, hroom, hf, add_plain, hst]
theorem wpList_append_one_in {ops : Array Oper} {rest : List Oper} {o : Oper} {a : Act} {Q : Exit → Act → World → Prop} (hgd : o.guard = none) (s x : Operand) (t : TypeId)
    (ho : o.op = .call { callee := .builtin .append, args := #[s, x], argTypes := #[t, t] })
    (e tt : TypeId) (i : TypeInfo) (ht : P.underlying t = some (.slice e)) (hi : P.info? e = some i) (hsize : i.size = 1)
    (g off n cap : Nat) (cur : Array Value) (hes : a.eval s = .slice (some ⟨g, off, none⟩) n cap) (hg : Blk w g tt cur) (hfit : off + n < cur.size) (hroom : n + 1 ≤ cap)
    (b off0 c : Nat) (u : Value) (hex : a.eval x = .slice (some ⟨b, off0, none⟩) 1 c) (hs : w.cell? ⟨b, off0, none⟩ = some u) (h1 : u.oneCell' = true)
    (h : ∀ w', Blk w' g tt (cur.setIfInBounds (off + n) u) → Chg (fun k => k = g) w w' → wpList P ops Q rest (a.put o.dst (.slice (some ⟨g, off, none⟩) (n + 1) cap)) w') : wpList P ops Q (o :: rest) a w :=
  wpList_plain hgd fun _ hK => by
    obtain ⟨w', hrun, h2, h3⟩ := run_append_one_in (P := P) w t o.type e tt i ht hi hsize g off n cap cur hg hfit hroom b off0 c u hs h1
    unfold Oper.wp execOp
    simp only [ho, resolve, invoke, builtin, Sem.run_bind, Sem.run_pure, Result.andThen_ok, List.map_toArray, List.map_cons, List.map_nil, hes, hex, hrun]
    exact hK _ _ (h w' h2 h3)
end
theorem rd_last (w : World) (t : TypeId) (l : List Value) : Rd (w.alloc (.cells l.toArray t)) (some ⟨w.heap.size, 0, none⟩) l := .inr ⟨_, 0, rfl, fun j u hu => by
  rw [cell_of_row _ _ _ _ t (0, 0) (heap_last w _ rfl)]; simpa using hu⟩
theorem rd_last_drew (w : World) (t : TypeId) (l : List Value) : Rd (w.alloc (.cells l.toArray t)).drew (some ⟨w.heap.size, 0, none⟩) l := rd_last w t l
end Go.Proofs.Ytgijkgngldfdiaa
