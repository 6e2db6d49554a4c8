/- A heap in memory: its list, its map of names. Helper. -/
import Derived.Test.YtghmldfllieonaaHeapIt
import Derived.Test.YtghmldfllieonaaMore
import Derived.Test.YtghmldfllieonaaSlices
import Derived.Deep.RegionHeld3
import Derived.Deep.RegionWith
import Derived.Deep.RegionLaw
import Derived.Laws.IdiomCopy
import Derived.Laws.ResultCell
import Derived.Outline
import Derived.DeepKeys4
import Derived.Maps.Own
import Derived.Maps.OwnOps
import Derived.Maps.OwnSet
import Derived.Maps.Views
import Derived.WalkSpells
namespace Go.Proofs.Ytghmldfllieonaa
open Go.RowKit Go.Maps Go.ChangeMaps Go.MapKept
set_option linter.unusedVariables false
set_option linter.unusedSimpArgs false
theorem laidOutH : laidOutB Try.prog = true := by kernel_rfl
theorem sizeT : ∃ m, Try.prog.types.size = m + 1 + 1 := by
  have h : 2 ≤ Try.prog.types.size := of_decide_eq_true (by kernel_rfl)
  exact ⟨Try.prog.types.size - 2, by omega⟩
set_option maxRecDepth 100000
theorem wideN : (match Try.prog.underlying 62 with | some (.array _ _) | some (.struct _) => true | _ => false) = true := by rw [Try.underlying62]
theorem kName : Keyed Try.prog 62 := Keyed.of_law (deep_law_laid laidOutH (m := 2) (by omega) (of_decide_eq_true (by kernel_rfl)) (by kernel_rfl) wideN)
theorem keyTypeN : Try.prog.keyType 62 = true := by kernel_rfl
theorem cellsN : Try.prog.cellsOf 62 = 2 := by kernel_rfl
theorem cells3 : Try.prog.cellsOf 3 = 1 := by kernel_rfl
theorem cells2 : Try.prog.cellsOf 2 = 1 := by kernel_rfl
/-- A name as a key. -/
def nk (O N : Int) : Lit := .string (keyBytes [.int .i64 O, .int .i64 N])
def W64 (x : Int) : Prop := (Lit.int .i64 x).wf = true
theorem key_nk {O N : Int} (hO : W64 O) (hN : W64 N) : keyOf Try.prog 62 (.agg #[.int .i64 O, .int .i64 N]) = some (nk O N) := by
  obtain ⟨m, hm⟩ := sizeT
  have hO' : (Lit.int .i64 O).wf = true := hO
  have hN' : (Lit.int .i64 N).wf = true := hN
  unfold keyOf
  simp only [Try.underlying62]
  rw [if_pos (by simp [keyTypeN, Value.formed, Try.underlying62, cellsN]), hm]
  unfold Program.keyLits
  simp only [Try.underlying62, Value.cells]
  rw [if_pos ⟨by rw [cellsN]; rfl, by simp⟩]
  simp [Program.keyLits, cells3, cells2, Try.underlying3, Try.underlying2, hO', hN', nk]
theorem nk_inj {O N O' N' : Int} (hO : W64 O) (hN : W64 N) (hO' : W64 O') (hN' : W64 N') (h : nk O N = nk O' N') : O = O' ∧ N = N' := by
  have := kName.inj (key_nk hO hN) (by rw [h]; exact key_nk hO' hN')
  simp at this
  exact this
theorem nk_key {O N : Int} (hO : W64 O) (hN : W64 N) : WideAt.IsKeyLit (nk O N) := kName.key (key_nk hO hN)
theorem zero_int (w : World) : (zeroValue 3).run Try.prog w = .ok (.int .i64 0) w := by kernel_rfl
def updF (f : Int → Int → Option Nat) (O N : Int) (j : Nat) : Int → Int → Option Nat := fun O' N' => if O' = O ∧ N' = N then some j else f O' N'
def delF (f : Int → Int → Option Nat) (O N : Int) : Int → Int → Option Nat := fun O' N' => if O' = O ∧ N' = N then none else f O' N'
/-- Block S is the map of names f, of at most c. -/
def MapIs (w : World) (S : Nat) (f : Int → Int → Option Nat) (c : Nat) : Prop :=
  ∃ D : DataW Unit, w.ownsMap Try.prog 62 (plainElem Try.prog 3) S (size D) D ∧ size D ≤ c ∧ (∀ O N, W64 O → W64 N → has D (nk O N) = (f O N).isSome) ∧
    ∀ O N j, W64 O → W64 N → f O N = some j → D.atKey (nk O N) (.lit (.int .i64 0)) = .lit (.int .i64 (j : Int))
theorem tight {w : World} {S n : Nat} {D : DataW Unit} (h : w.ownsMap Try.prog 62 (plainElem Try.prog 3) S n D) : w.ownsMap Try.prog 62 (plainElem Try.prog 3) S (size D) D := by
  obtain ⟨es, clock, hb, F, hs, hD⟩ := h
  refine ⟨es, clock, hb, F, ?_, hD⟩
  rw [hD, size_eq, length_sorted]
  simp
theorem MapIs.same {w w' : World} {S : Nat} {f : Int → Int → Option Nat} {c : Nat} (h : MapIs w S f c) (e : w'.heap[S]? = w.heap[S]?) : MapIs w' S f c := by
  obtain ⟨D, ⟨es, clock, hb, r⟩, h2⟩ := h
  exact ⟨D, ⟨es, clock, e.trans hb, r⟩, h2⟩
theorem MapIs.lt {w : World} {S : Nat} {f : Int → Int → Option Nat} {c : Nat} (h : MapIs w S f c) : S < w.heap.size := by
  obtain ⟨D, h, _⟩ := h; exact h.lt
theorem MapIs.noCells {w : World} {S : Nat} {f : Int → Int → Option Nat} {c : Nat} (h : MapIs w S f c) {b : Nat} {t : TypeId} {cs : Array Value} (hb : Blk w b t cs) : S ≠ b := by
  rintro rfl
  obtain ⟨D, ⟨es, clock, hm, _⟩, _⟩ := h
  unfold Blk at hb
  rw [hm] at hb
  cases hb
theorem MapIs.made (w : World) : MapIs (w.alloc (.map #[] 0)) w.heap.size (fun _ _ => none) 0 :=
  ⟨.map [], World.ownsMap_made w Try.prog _ _, by simp [size_eq], fun O N _ _ => rfl, fun O N j _ _ h => by cases h⟩
theorem MapIs.has {w : World} {S : Nat} {f : Int → Int → Option Nat} {c : Nat} (h : MapIs w S f c) {O N : Int} (hO : W64 O) (hN : W64 N) :
    ∃ v, (Instr.lookup 55 (.map (some S)) (.agg #[.int .i64 O, .int .i64 N]) true).run Try.prog w = .ok (.tuple #[.int .i64 v, .bool (f O N).isSome]) w := by
  obtain ⟨D, ho, _, hh, _⟩ := h
  obtain ⟨v, ps, hrun, hv⟩ := ho.look_ok kName Try.underlying55 (zero_int w) (plainElem_int Try.underlying3 (by decide)) (key_nk hO hN)
  obtain ⟨x, rfl, _, _⟩ := plainElem_int_inv Try.underlying3 hv
  rw [hh O N hO hN] at hrun
  exact ⟨x, hrun⟩
theorem MapIs.at {w : World} {S : Nat} {f : Int → Int → Option Nat} {c : Nat} (h : MapIs w S f c) {O N : Int} (hO : W64 O) (hN : W64 N) {j : Nat} (hj : f O N = some j) :
    (Instr.lookup 55 (.map (some S)) (.agg #[.int .i64 O, .int .i64 N]) false).run Try.prog w = .ok (.int .i64 (j : Int)) w := by
  obtain ⟨D, ho, _, _, ha⟩ := h
  obtain ⟨x, hrun, hx, _⟩ := ho.lookup_int kName Try.underlying55 Try.underlying3 (zero_int w) (key_nk hO hN)
  rw [ha O N j hO hN hj] at hx
  injection hx with hx
  injection hx with _ hx
  rw [hrun, ← hx]
theorem MapIs.put {w : World} {S : Nat} {f : Int → Int → Option Nat} {c : Nat} (h : MapIs w S f c) {O N : Int} (hO : W64 O) (hN : W64 N) {j : Nat} (hj : j ≤ 1000000) (hc : c ≤ 1000000) :
    ∃ w', (Instr.mapUpdate 55 (.map (some S)) (.agg #[.int .i64 O, .int .i64 N]) (.int .i64 (j : Int))).run Try.prog w = .ok () w' ∧ MapIs w' S (updF f O N j) (if (f O N).isSome = true then c else c + 1) ∧ Chg (fun k => k = S) w w' := by
  obtain ⟨D, ho, hs, hh, ha⟩ := h
  have hjw : (Lit.int .i64 (j : Int)).wf = true := by simp [Lit.wf, IntKind.min, IntKind.max, IntKind.bits, IntKind.signed]; omega
  obtain ⟨w', hrun, h1, h2⟩ := ho.update kName Try.underlying55 (by unfold maxLen; omega) (key_nk hO hN) (plainElem_int Try.underlying3 hjw)
  have htd := ho.tidy kName
  have hm := ho.isMap
  refine ⟨w', hrun, ⟨_, tight h1, ?_, fun O' N' hO' hN' => ?_, fun O' N' j' hO' hN' hf => ?_⟩, ⟨h2.os, h2.tape, h2.output, h2.size, fun k hk hne => h2.block k hk (fun e => hne (by injection e))⟩⟩
  · rw [size_put htd, hh O N hO hN]
    split <;> omega
  · unfold updF
    by_cases e : O' = O ∧ N' = N
    · obtain ⟨rfl, rfl⟩ := e
      rw [has_put_same hm (nk_key hO hN), if_pos ⟨rfl, rfl⟩]; rfl
    · rw [has_put_other (fun h => e (nk_inj hO' hN' hO hN h)), if_neg e, hh O' N' hO' hN']
  · unfold updF at hf
    by_cases e : O' = O ∧ N' = N
    · obtain ⟨rfl, rfl⟩ := e
      rw [if_pos ⟨rfl, rfl⟩] at hf
      injection hf with hf
      rw [atKey_put_same hm (nk_key hO hN), hf]
    · rw [if_neg e] at hf
      rw [atKey_put_other (fun h => e (nk_inj hO' hN' hO hN h)), ha O' N' j' hO' hN' hf]
theorem MapIs.del {w : World} {S : Nat} {f : Int → Int → Option Nat} {c : Nat} (h : MapIs w S f (c + 1)) {O N : Int} (hO : W64 O) (hN : W64 N) (hf : (f O N).isSome = true) (ty : TypeId) :
    ∃ w', (Builtin.delete_ #[55, 62] ty #[.map (some S), .agg #[.int .i64 O, .int .i64 N]]).run Try.prog w = .ok (.tuple #[]) w' ∧ MapIs w' S (delF f O N) c ∧ Chg (fun k => k = S) w w' := by
  obtain ⟨D, ho, hs, hh, ha⟩ := h
  obtain ⟨w', hrun, h1, h2⟩ := ho.drop kName Try.underlying55 (key_nk hO hN) ty
  have htd := ho.tidy kName
  have h2 := h2.grown
  refine ⟨w', hrun, ⟨_, tight h1, ?_, fun O' N' hO' hN' => ?_, fun O' N' j' hO' hN' hf => ?_⟩, ⟨h2.os, h2.tape, h2.output, h2.size, fun k hk hne => h2.block k hk (fun e => hne (by injection e))⟩⟩
  · have := size_del (k := nk O N) htd
    rw [hh O N hO hN, hf, if_pos rfl] at this
    omega
  · unfold delF
    by_cases e : O' = O ∧ N' = N
    · obtain ⟨rfl, rfl⟩ := e
      rw [has_del_same, if_pos ⟨rfl, rfl⟩]; rfl
    · rw [has_del_other (fun h => e (nk_inj hO' hN' hO hN h)), if_neg e, hh O' N' hO' hN']
  · unfold delF at hf
    by_cases e : O' = O ∧ N' = N
    · rw [if_pos e] at hf; cases hf
    · rw [if_neg e] at hf
      rw [atKey_del_other (fun h => e (nk_inj hO' hN' hO hN h)), ha O' N' j' hO' hN' hf]
/-- Items as cells. -/
def rowsI (l : List It) : List Value := l.flatMap It.c
theorem rowsI_append (a b : List It) : rowsI (a ++ b) = rowsI a ++ rowsI b := by simp [rowsI]
theorem rowsI_one (e : It) : rowsI [e] = e.c := by simp [rowsI]
theorem It.c_length (e : It) : e.c.length = 7 := rfl
theorem rowsI_length (l : List It) : (rowsI l).length = l.length * 7 := by
  induction l with
  | nil => rfl
  | cons a l ih => rw [show a :: l = [a] ++ l from rfl, rowsI_append, List.length_append, ih, rowsI_one, List.length_append, It.c_length]; simp; omega
theorem It.c_one (e : It) : ∀ u ∈ e.c, u.oneCell' = true := by
  intro u hu; simp only [It.c, List.mem_cons, List.not_mem_nil, or_false] at hu
  rcases hu with rfl | rfl | rfl | rfl | rfl | rfl | rfl <;> rfl
theorem rowsI_mem (l : List It) : ∀ u ∈ rowsI l, u.oneCell' = true := by
  intro u hu
  simp only [rowsI, List.mem_flatMap] at hu
  obtain ⟨i, _, h⟩ := hu
  exact It.c_one i u h
theorem rowsI_drop (l : List It) (k : Nat) : (rowsI l).drop (k * 7) = rowsI (l.drop k) := by
  induction l generalizing k with
  | nil => simp [rowsI]
  | cons a l ih =>
    cases k with
    | zero => simp
    | succ k =>
      rw [show a :: l = [a] ++ l from rfl, rowsI_append, rowsI_one, show (k + 1) * 7 = a.c.length + k * 7 by rw [It.c_length]; omega, List.drop_append, Nat.add_sub_cancel_left, ih, List.drop_eq_nil_of_le (by omega)]
      rfl
theorem rowsI_take (l : List It) (k : Nat) : (rowsI l).take (k * 7) = rowsI (l.take k) := by
  induction l generalizing k with
  | nil => simp [rowsI]
  | cons a l ih =>
    cases k with
    | zero => simp [rowsI]
    | succ k =>
      rw [show a :: l = [a] ++ l from rfl, rowsI_append, rowsI_one, show (k + 1) * 7 = a.c.length + k * 7 by rw [It.c_length]; omega, List.take_append, Nat.add_sub_cancel_left, ih, List.take_of_length_le (by omega)]
      simp [rowsI]
theorem rowsI_get (l : List It) (k : Nat) (hk : k < l.length) (j : Nat) (hj : j < 7) : (rowsI l)[k * 7 + j]? = (g l k).c[j]? := by
  have e : ((rowsI l).drop (k * 7))[j]? = (rowsI l)[k * 7 + j]? := List.getElem?_drop
  rw [← e, rowsI_drop, List.drop_eq_getElem_cons hk, show l[k] :: l.drop (k + 1) = [l[k]] ++ l.drop (k + 1) from rfl, rowsI_append, rowsI_one, List.getElem?_append_left (by rw [It.c_length]; exact hj), g_get l k hk]
theorem rowsI_set (l : List It) (i : Nat) (hi : i < l.length) (e : It) (j : Nat) (hj : j < l.length * 7) : (rowsI (l.set i e))[j]? = if i * 7 ≤ j ∧ j < i * 7 + 7 then e.c[j - i * 7]? else (rowsI l)[j]? := by
  have hd : j = j / 7 * 7 + j % 7 := by omega
  have hk : j / 7 < l.length := by omega
  have hm : j % 7 < 7 := Nat.mod_lt _ (by omega)
  rw [hd, rowsI_get _ _ (by simpa using hk) _ hm, rowsI_get _ _ hk _ hm, g_set _ _ _ _ hi, ← hd]
  by_cases h : j / 7 = i
  · rw [if_pos h, if_pos (by omega), show j - i * 7 = j % 7 by omega]
  · rw [if_neg h, if_neg (by omega)]
/-- Cells that are written one behind the other. -/
theorem Blk.setCells {t : TypeId} {b : Nat} : ∀ (vs : List Value) (o : Nat) (w : World) (cur : Array Value), Blk w b t cur → o + vs.length ≤ cur.size →
    ∃ cur', Blk (w.setCells b o vs) b t cur' ∧ cur'.size = cur.size ∧ ∀ j : Nat, cur'[j]? = if o ≤ j ∧ j < o + vs.length then vs[j - o]? else cur[j]?
  | [], o, w, cur, h, _ => ⟨cur, h, rfl, fun j => by rw [if_neg (by simp only [List.length_nil]; omega)]⟩
  | v :: r, o, w, cur, h, hl => by
    simp only [List.length_cons] at hl
    obtain ⟨cur', h1, h2, h3⟩ := Blk.setCells r (o + 1) _ _ (h.set_ o v) (by simp; omega)
    refine ⟨cur', h1, by rw [h2]; simp, fun j => ?_⟩
    rw [h3 j]
    simp only [List.length_cons]
    by_cases e : j = o
    · subst e
      rw [if_neg (by omega), if_pos (by omega)]
      simp [show j < cur.size by omega]
    · have e3 : (cur.setIfInBounds o v)[j]? = cur[j]? := by rw [Array.getElem?_setIfInBounds]; exact if_neg (fun h => e h.symm)
      rw [e3]
      by_cases e2 : o + 1 ≤ j ∧ j < o + 1 + r.length
      · rw [if_pos e2, if_pos (by omega), show j - o = (j - (o + 1)) + 1 by omega, List.getElem?_cons_succ]
      · rw [if_neg e2, if_neg (by omega)]
theorem Chg.setCells {M : Nat → Prop} {w : World} {b : Nat} (hb : M b ∨ w.heap.size ≤ b) : ∀ (vs : List Value) (o : Nat) (w' : World), Chg M w w' → Chg M w (w'.setCells b o vs)
  | [], _, _, h => h
  | v :: r, o, w', h => Chg.setCells hb r (o + 1) _ (h.setCell (p := ⟨b, o, none⟩) hb v)
theorem heap_setCells (b : Nat) : ∀ (vs : List Value) (o : Nat) (w : World) (k : Nat), k ≠ b → (w.setCells b o vs).heap[k]? = w.heap[k]?
  | [], _, _, _, _ => rfl
  | v :: r, o, w, k, h => (heap_setCells b r (o + 1) _ k h).trans (Below.heap_setCell w ⟨b, o, none⟩ v k h)
/-- One item of a list that owns its array is written. -/
theorem Own.setItem {w : World} {b off n c : Nat} {l : List It} {blk : Option Nat} (h : Own w 36 7 (.slice (some ⟨b, off, none⟩) n c) n (rowsI l) blk) {i : Nat} (hi : i < n) (e : It) :
    blk = some b ∧ Own (w.setCells b (off + i * 7) e.c) 36 7 (.slice (some ⟨b, off, none⟩) n c) n (rowsI (l.set i e)) blk := by
  obtain ⟨hxl, A, c', e1, hnc, hcm, h3 | ⟨b', off', cur, rfl, rfl, hg, hfit, ht⟩⟩ := h
  · injection e1 with _ _ e3; have := h3.1; omega
  · injection e1 with e1 _ e3
    injection e1 with e1
    injection e1 with e1 e2
    subst e1 e2 e3
    have hll : l.length = n := by rw [rowsI_length] at hxl; omega
    obtain ⟨cur', k1, k2, k3⟩ := Blk.setCells e.c (off + i * 7) w cur hg (by rw [It.c_length]; omega)
    refine ⟨rfl, by rw [rowsI_length, List.length_set, hll], _, c, rfl, hnc, hcm, .inr ⟨b, off, cur', rfl, rfl, k1, by omega, ?_⟩⟩
    apply List.ext_getElem?
    intro j
    by_cases hj : j < n * 7
    · rw [List.getElem?_take_of_lt hj, List.getElem?_drop, Array.getElem?_toList, k3, rowsI_set l i (by omega) e j (by omega), It.c_length]
      by_cases h : i * 7 ≤ j ∧ j < i * 7 + 7
      · rw [if_pos (by omega), if_pos h, show off + j - (off + i * 7) = j - i * 7 by omega]
      · rw [if_neg (by omega), if_neg h, ← ht, List.getElem?_take_of_lt hj, List.getElem?_drop, Array.getElem?_toList]
    · rw [List.getElem?_eq_none (by rw [List.length_take]; omega), List.getElem?_eq_none (by rw [rowsI_length, List.length_set]; omega)]
theorem Own.tyB {w : World} {e : TypeId} {size : Nat} {v : Value} {n : Nat} {xs : List Value} {blk : Option Nat} (h : Own w e size v n xs blk) : ∀ g, blk = some g → ∃ cur, Blk w g e cur := by
  intro g hb
  obtain ⟨hl, A, c, rfl, hn, hm, h | ⟨g', off, cur, rfl, hb', hg, h1, h2⟩⟩ := h
  · rw [h.2] at hb; cases hb
  · rw [hb'] at hb; cases hb; exact ⟨cur, hg⟩
/-- What an item's cells are, in a list that owns its array. -/
theorem Own.item {w : World} {b off n c : Nat} {l : List It} {blk : Option Nat} (h : Own w 36 7 (.slice (some ⟨b, off, none⟩) n c) n (rowsI l) blk) {i : Nat} (hi : i < n) :
    ∀ j, j < 7 → w.cell? ⟨b, off + i * 7 + j, none⟩ = (g l i).c[j]? ∧ w.frozen? ⟨b, off + i * 7 + j, none⟩ = false := by
  intro j hj
  obtain ⟨hxl, A, c', e1, hnc, hcm, h3 | ⟨b', off', cur, rfl, rfl, hg, hfit, ht⟩⟩ := h
  · injection e1 with _ _ e3; have := h3.1; omega
  · injection e1 with e1 _ e3
    injection e1 with e1
    injection e1 with e1 e2
    subst e1 e2 e3
    have hll : l.length = n := by rw [rowsI_length] at hxl; omega
    refine ⟨?_, hg.frozen _⟩
    rw [hg.cell, ← rowsI_get l i (by omega) j hj, ← ht, List.getElem?_take_of_lt (by omega), List.getElem?_drop, Array.getElem?_toList, Nat.add_assoc]
/-- A heap's memory. -/
structure HM (w : World) (gB S : Nat) (v : Value) (l : List It) (f : Int → Int → Option Nat) (m : Nat) (blk : Option Nat) : Prop where
  bk : Blk w gB 57 #[v, .map (some S)]
  ow : Own w 36 7 v l.length (rowsI l) blk
  mp : MapIs w S f m
def HTurn (gB S : Nat) (blk : Option Nat) : Nat → Prop := fun k => k = gB ∨ k = S ∨ some k = blk
theorem HM.new {w w' : World} {gB S : Nat} {v : Value} {l : List It} {f : Int → Int → Option Nat} {m : Nat} {blk : Option Nat} (h : HM w gB S v l f m blk) (hB : Below w.heap.size w w') : HM w' gB S v l f m blk :=
  ⟨h.bk.below hB h.bk.lt, h.ow.kept fun g hg => hB.block g (h.ow.lt g hg), h.mp.same (hB.block S h.mp.lt)⟩
theorem HM.apart {w : World} {gB S : Nat} {v : Value} {l : List It} {f : Int → Int → Option Nat} {m : Nat} {blk : Option Nat} (h : HM w gB S v l f m blk) : S ≠ gB ∧ blk ≠ some gB ∧ blk ≠ some S :=
  ⟨h.mp.noCells h.bk, fun e => by obtain ⟨cur, hc⟩ := h.ow.tyB _ e; exact absurd rfl (hc.ne_ h.bk (by decide)), fun e => by obtain ⟨cur, hc⟩ := h.ow.tyB _ e; exact h.mp.noCells hc rfl⟩
end Go.Proofs.Ytghmldfllieonaa
