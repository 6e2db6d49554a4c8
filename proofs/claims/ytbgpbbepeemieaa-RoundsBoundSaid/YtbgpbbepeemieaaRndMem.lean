/- Rounds in memory: who was seen, as a map; the rest. Helper. -/
import Derived.Test.YtbgpbbepeemieaaOrdB
import Derived.Maps.Own
import Derived.Maps.OwnOps
import Derived.Maps.OwnSet
import Derived.Maps.Views
import Derived.WalkSpells
namespace Go.Proofs.Ytbgpbbepeemieaa
open Go.RowKit Go.Maps Go.ChangeMaps Go.MapKept
set_option linter.unusedVariables false
set_option linter.unusedSimpArgs false
theorem kInt : Keyed Try.prog 3 := int_keyed Try.underlying3
/-- Those seen, the last one first, as the map's datum. -/
def seenD : List Nat → DataW Unit
  | [] => .map []
  | p :: l => (seenD l).put (.int .i64 (p : Int)) (.lit (.bool true))
/-- Block S is the map of who was seen. -/
def Sn (w : World) (S : Nat) (l : List Nat) : Prop := w.ownsMap (H := Unit) Try.prog 3 (plainElem Try.prog 4) S l.length (seenD l) ∧ l.Nodup ∧ l.length ≤ 16 ∧ ∀ p ∈ l, p ≤ 16
theorem isKey (p : Nat) : WideAt.IsKeyLit (.int .i64 (p : Int)) := by simp [WideAt.IsKeyLit]
theorem tidy_seen (l : List Nat) : Tidy (seenD l) := by
  induction l with
  | nil => exact tidy_empty
  | cons p l ih => exact ih.put (isKey p) _
theorem wf_small {p : Nat} (h : p ≤ 16) : (Lit.int .i64 (p : Int)).wf = true := by
  simp [Lit.wf, IntKind.min, IntKind.max, IntKind.bits, IntKind.signed]; omega
theorem key_small {p : Nat} (h : p ≤ 16) : keyOf Try.prog 3 (.int .i64 (p : Int)) = some (.int .i64 (p : Int)) := keyOf_int_mk Try.underlying3 (wf_small h)
theorem key_ne {p q : Nat} (h : p ≠ q) : Lit.int .i64 (p : Int) ≠ .int .i64 (q : Int) := fun e => by
  injection e with _ e
  omega
theorem has_seen (l : List Nat) (p : Nat) : has (seenD l) (.int .i64 (p : Int)) = decide (p ∈ l) := by
  induction l with
  | nil => simp [seenD, has]
  | cons q l ih =>
    show has ((seenD l).put _ _) _ = _
    by_cases h : p = q
    · subst h
      rw [has_put_same (tidy_seen l).isMap (isKey _)]
      simp
    · rw [has_put_other (key_ne h), ih]
      simp [h]
theorem at_seen (l : List Nat) (p : Nat) : (seenD l).atKey (.int .i64 (p : Int)) (.lit (.bool false)) = .lit (.bool (decide (p ∈ l))) := by
  induction l with
  | nil => simp [seenD, DataW.atKey]
  | cons q l ih =>
    show ((seenD l).put _ _).atKey _ _ = _
    by_cases h : p = q
    · subst h
      rw [atKey_put_same (tidy_seen l).isMap (isKey _)]
      simp
    · rw [atKey_put_other (key_ne h), ih]
      simp [h]
theorem size_seen {l : List Nat} (h : l.Nodup) : size (seenD l) = l.length := by
  induction l with
  | nil => rfl
  | cons q l ih =>
    have h1 := List.nodup_cons.1 h
    show size ((seenD l).put _ _) = _
    rw [size_put (tidy_seen l), has_seen, ih h1.2]
    simp [h1.1]
theorem zero_bool (w : World) : (zeroValue 4).run Try.prog w = .ok (.bool false) w := by kernel_rfl
theorem plainElem_bool_inv {H : Type} {P : Program} {e : TypeId} (he : P.underlying e = some .bool) {v : Value} {z : DataW H × List MemPlace} (h : plainElem P e v = some z) : ∃ x, v = .bool x ∧ z = (.lit (.bool x), []) := by
  unfold plainElem at h
  rw [he] at h
  cases v with
  | bool x => exact ⟨x, rfl, by injection h with h; exact h.symm⟩
  | _ => cases h
theorem Sn.lookup {w : World} {S : Nat} {l : List Nat} (h : Sn w S l) {p : Nat} (hp : p ≤ 16) : (Instr.lookup 47 (.map (some S)) (.int .i64 (p : Int)) false).run Try.prog w = .ok (.bool (decide (p ∈ l))) w := by
  obtain ⟨v, ps, hrun, hv⟩ := h.1.lookup kInt Try.underlying47 (zero_bool w) (plainElem_bool Try.underlying4 false) (key_small hp)
  obtain ⟨x, rfl, hx⟩ := plainElem_bool_inv Try.underlying4 hv
  rw [at_seen] at hx
  injection hx with hx _
  injection hx with hx
  injection hx with hx
  rw [hrun, hx]
theorem Sn.len {w : World} {S : Nat} {l : List Nat} (h : Sn w S l) (ty : TypeId) : (Builtin.len_ #[47] ty #[.map (some S)]).run Try.prog w = .ok (.int .i64 (l.length : Int)) w := by
  rw [h.1.len Try.underlying47 ty, size_seen h.2.1]
theorem Sn.obj {w : World} {S : Nat} {l : List Nat} (h : Sn w S l) : ∃ es clock, w.heap[S]? = some (.map es clock) ∧ es.size = l.length := by
  obtain ⟨es, clock, hb, _, _, e⟩ := h.1
  refine ⟨es, clock, hb, ?_⟩
  have := size_seen h.2.1
  rw [e, size_eq, length_sorted] at this
  simpa using this
theorem Sn.same {w w' : World} {S : Nat} {l : List Nat} (h : Sn w S l) (e : w'.heap[S]? = w.heap[S]?) : Sn w' S l := by
  obtain ⟨⟨es, clock, hb, r⟩, h2⟩ := h
  exact ⟨⟨es, clock, e.trans hb, r⟩, h2⟩
theorem Sn.made (w : World) : Sn (w.alloc (.map #[] 0)) w.heap.size [] := ⟨World.ownsMap_made w Try.prog _ _, List.nodup_nil, by simp, by simp⟩
theorem Sn.put {w : World} {S : Nat} {l : List Nat} (h : Sn w S l) {p : Nat} (hp : p ≤ 16) (hn : p ∉ l) (hl : l.length < 16) : ∃ w', (Instr.mapUpdate 47 (.map (some S)) (.int .i64 (p : Int)) (.bool true)).run Try.prog w = .ok () w' ∧ Sn w' S (p :: l) ∧ Chg (fun k => k = S) w w' := by
  obtain ⟨w', hrun, h1, h2⟩ := h.1.update kInt Try.underlying47 (by have := h.2.2.1; unfold maxLen; omega) (key_small hp) (plainElem_bool Try.underlying4 true)
  refine ⟨w', hrun, ⟨h1, List.nodup_cons.2 ⟨hn, h.2.1⟩, by simp; omega, fun q hq => ?_⟩, ⟨h2.os, h2.tape, h2.output, h2.size, fun k hk hne => h2.block k hk (fun e => hne (by injection e))⟩⟩
  rcases List.mem_cons.1 hq with rfl | hq
  · exact hp
  · exact h.2.2.2 q hq
theorem Sn.clear {w : World} {S : Nat} {l : List Nat} (h : Sn w S l) (ty : TypeId) : ∃ w', (Builtin.clear_ #[47] ty #[.map (some S)]).run Try.prog w = .ok (.tuple #[]) w' ∧ Sn w' S [] ∧ Chg (fun k => k = S) w w' := by
  obtain ⟨es, clock, hb, _⟩ := h.obj
  have hlt := h.1.lt
  refine ⟨setBlock w S (.map #[] clock), ?_, ⟨⟨#[], clock, heap_setBlock_same hb _, ⟨by simp, stamped_empty clock, by simp⟩, Nat.le_refl _, rfl⟩, List.nodup_nil, by simp, by simp⟩, ⟨rfl, rfl, rfl, by simp [setBlock], fun k hk hne => heap_setBlock_other hb _ (fun e => hne e)⟩⟩
  simp [Builtin.clear_, run_underlying Try.underlying47, MapKept.run_getObj_map hb, MapKept.run_setObj_map _ hb, Result.andThen, setBlock]
end Go.Proofs.Ytbgpbbepeemieaa
