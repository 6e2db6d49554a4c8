/- Words for memory that is changed: which blocks may turn, blocks known whole, slices that own their array at any place in it. -/
import Derived.Test.YtalcafaibmbgjaaDoorLib
import Derived.RegionTactic
namespace Go.Proofs.YtalcafaibmbgjaaDoor
open Go.RowKit
/-- Of what was there, the blocks that M names alone may have turned. -/
structure Chg (M : Nat → Prop) (w w' : World) : Prop where
  os : w'.os = w.os
  tape : w'.tape = w.tape
  output : w'.output = w.output
  size : w.heap.size ≤ w'.heap.size
  block : ∀ k, k < w.heap.size → ¬ M k → w'.heap[k]? = w.heap[k]?
theorem Chg.refl (M : Nat → Prop) (w : World) : Chg M w w := ⟨rfl, rfl, rfl, Nat.le_refl _, fun _ _ _ => rfl⟩
theorem Chg.trans {M M' : Nat → Prop} {a b c : World} (h : Chg M a b) (k : Chg M' b c) (hM : ∀ i, i < a.heap.size → M' i → M i) : Chg M a c :=
  ⟨k.os.trans h.os, k.tape.trans h.tape, k.output.trans h.output, Nat.le_trans h.size k.size,
    fun i hi hn => (k.block i (Nat.lt_of_lt_of_le hi h.size) (fun hm => hn (hM i hi hm))).trans (h.block i hi hn)⟩
theorem Chg.mono {M M' : Nat → Prop} {a b : World} (h : Chg M a b) (hM : ∀ i, i < a.heap.size → M i → M' i) : Chg M' a b :=
  ⟨h.os, h.tape, h.output, h.size, fun i hi hn => h.block i hi (fun hm => hn (hM i hi hm))⟩
theorem Chg.of_below {B : Nat} {a b : World} (h : Below B a b) (hB : a.heap.size ≤ B) (M : Nat → Prop) : Chg M a b :=
  ⟨h.os, h.tape, h.output, h.size, fun i hi _ => h.block i (by omega)⟩
theorem Chg.below {M : Nat → Prop} {a b : World} (h : Chg M a b) {B : Nat} (hM : ∀ i, i < a.heap.size → M i → B ≤ i) (hB : B ≤ a.heap.size) : Below B a b :=
  ⟨h.os, h.tape, h.output, h.size, fun i hi => h.block i (by omega) (fun hm => by have := hM i (by omega) hm; omega)⟩
theorem Chg.drew {M : Nat → Prop} {a b : World} (h : Chg M a b) : Chg M a b.drew := ⟨h.os, h.tape, h.output, h.size, h.block⟩
theorem Chg.alloc {M : Nat → Prop} {a b : World} (h : Chg M a b) (o : Obj) : Chg M a (b.alloc o) :=
  ⟨h.os, h.tape, h.output, Nat.le_trans h.size (by simp), fun i hi hn => (Below.heap_alloc b o i (Nat.lt_of_lt_of_le hi h.size)).trans (h.block i hi hn)⟩
theorem Chg.setCell {M : Nat → Prop} {a b : World} (h : Chg M a b) {p : Addr} (hp : M p.block ∨ a.heap.size ≤ p.block) (u : Value) : Chg M a (b.setCell p u) :=
  ⟨h.os, h.tape, h.output, by simpa [World.setCell] using h.size, fun i hi hn => (Below.heap_setCell b p u i (by
    rintro rfl
    rcases hp with hp | hp
    · exact hn hp
    · omega)).trans (h.block i hi hn)⟩
theorem Chg.setRow {M : Nat → Prop} {a b : World} (h : Chg M a b) {g : Nat} (hg : M g ∨ a.heap.size ≤ g) (cs : Array Value) : Chg M a (b.setRow g cs) :=
  ⟨h.os, h.tape, h.output, by simpa [World.setRow] using h.size, fun i hi hn => by
    rw [← h.block i hi hn]
    simp only [World.setRow, Array.getElem?_modify]
    rw [if_neg]
    rintro rfl
    rcases hg with hp | hp
    · exact hn hp
    · omega⟩
/-- A block that is known whole. -/
def Blk (w : World) (g : Nat) (t : TypeId) (cs : Array Value) : Prop := w.heap[g]? = some (.cells cs t (0, 0))
theorem Blk.lt {w : World} {g : Nat} {t : TypeId} {cs : Array Value} (h : Blk w g t cs) : g < w.heap.size := by
  rcases Nat.lt_or_ge g w.heap.size with hlt | hge
  · exact hlt
  · unfold Blk at h; rw [Array.getElem?_eq_none hge] at h; cases h
theorem Blk.cell {w : World} {g : Nat} {t : TypeId} {cs : Array Value} (h : Blk w g t cs) (i : Nat) : w.cell? ⟨g, i, none⟩ = cs[i]? := cell_of_row w g i cs t (0, 0) h
theorem Blk.frozen {w : World} {g : Nat} {t : TypeId} {cs : Array Value} (h : Blk w g t cs) (i : Nat) : w.frozen? ⟨g, i, none⟩ = false := by
  unfold Blk at h; simp [World.frozen?, h]
theorem Blk.chg {M : Nat → Prop} {w w' : World} {g : Nat} {t : TypeId} {cs : Array Value} (h : Blk w g t cs) (hc : Chg M w w') (hg : ¬ M g) : Blk w' g t cs := (hc.block g h.lt hg).trans h
theorem Blk.below {w w' : World} {g : Nat} {t : TypeId} {cs : Array Value} {B : Nat} (h : Blk w g t cs) (hB : Below B w w') (hg : g < B) : Blk w' g t cs := (hB.block g hg).trans h
theorem Blk.drew {w : World} {g : Nat} {t : TypeId} {cs : Array Value} (h : Blk w g t cs) : Blk w.drew g t cs := h
theorem Blk.alloc {w : World} {g : Nat} {t : TypeId} {cs : Array Value} (h : Blk w g t cs) (o : Obj) : Blk (w.alloc o) g t cs := (Below.heap_alloc w o g h.lt).trans h
theorem Blk.last (w : World) (t : TypeId) (cs : Array Value) {n : Nat} (h : w.heap.size = n) : Blk (w.alloc (.cells cs t)) n t cs := heap_last w _ h
theorem Blk.set_ {w : World} {g : Nat} {t : TypeId} {cs : Array Value} (h : Blk w g t cs) (i : Nat) (u : Value) : Blk (w.setCell ⟨g, i, none⟩ u) g t (cs.setIfInBounds i u) := by
  unfold Blk at h ⊢
  simp [World.setCell, Array.getElem?_modify, h]
theorem Blk.far {w : World} {g : Nat} {t : TypeId} {cs : Array Value} (h : Blk w g t cs) {p : Addr} (hp : g ≠ p.block) (u : Value) : Blk (w.setCell p u) g t cs := (Below.heap_setCell w p u g hp).trans h
theorem Blk.ne_ {w : World} {g g' : Nat} {t t' : TypeId} {cs cs' : Array Value} (h : Blk w g t cs) (h' : Blk w g' t' cs') (hne : t ≠ t') : g ≠ g' := by
  rintro rfl
  unfold Blk at h h'
  rw [h] at h'
  injection h' with h'
  injection h' with _ ht
  exact hne ht
/-- The slice v (n elements of type e, 'size' cells each) owns its array, block 'blk': the cells xs stand first, what is behind them up to the capacity may be written. -/
def Own (w : World) (e : TypeId) (size : Nat) (v : Value) (n : Nat) (xs : List Value) (blk : Option Nat) : Prop :=
  xs.length = n * size ∧ ∃ A c, v = .slice A n c ∧ n ≤ c ∧ c ≤ maxLen ∧
    ((c = 0 ∧ blk = none) ∨ ∃ g off cur, A = some ⟨g, off, none⟩ ∧ blk = some g ∧ Blk w g e cur ∧ off + c * size ≤ cur.size ∧ (cur.toList.drop off).take (n * size) = xs)
theorem Own.nil (w : World) (e : TypeId) (size : Nat) : Own w e size (.slice none 0 0) 0 [] none := ⟨by simp, none, 0, rfl, Nat.le_refl _, Nat.zero_le _, .inl ⟨rfl, rfl⟩⟩
theorem Own.lt {w : World} {e : TypeId} {size : Nat} {v : Value} {n : Nat} {xs : List Value} {blk : Option Nat} (h : Own w e size v n xs blk) : ∀ g, blk = some g → g < w.heap.size := by
  rintro g rfl
  obtain ⟨_, A, c, _, _, _, h | ⟨g', off, cur, _, hb, hg, _⟩⟩ := h
  · cases h.2
  · injection hb with hb; subst hb; exact hg.lt
theorem Own.kept {w w' : World} {e : TypeId} {size : Nat} {v : Value} {n : Nat} {xs : List Value} {blk : Option Nat} (h : Own w e size v n xs blk) (hk : ∀ g, blk = some g → w'.heap[g]? = w.heap[g]?) : Own w' e size v n xs blk := by
  obtain ⟨hl, A, c, rfl, hn, hm, h | ⟨g, off, cur, rfl, rfl, hg, h1, h2⟩⟩ := h
  · exact ⟨hl, A, c, rfl, hn, hm, .inl h⟩
  · exact ⟨hl, _, c, rfl, hn, hm, .inr ⟨g, off, cur, rfl, rfl, (hk g rfl).trans hg, h1, h2⟩⟩
theorem Own.chg {M : Nat → Prop} {w w' : World} {e : TypeId} {size : Nat} {v : Value} {n : Nat} {xs : List Value} {blk : Option Nat} (h : Own w e size v n xs blk) (hc : Chg M w w') (hM : ∀ g, blk = some g → ¬ M g) : Own w' e size v n xs blk :=
  h.kept fun g hg => hc.block g (h.lt g hg) (hM g hg)
theorem Own.rd {w : World} {e : TypeId} {size : Nat} {v : Value} {n : Nat} {xs : List Value} {blk : Option Nat} (h : Own w e size v n xs blk) : ∃ A c, v = .slice A n c ∧ Rd w A xs ∧ n ≤ c ∧ c ≤ maxLen := by
  obtain ⟨hl, A, c, rfl, hn, hm, h | ⟨g, off, cur, rfl, rfl, hg, h1, h2⟩⟩ := h
  · refine ⟨A, c, rfl, .inl ?_, hn, hm⟩
    have : n = 0 := by omega
    subst this
    exact List.eq_nil_of_length_eq_zero (by simpa using hl)
  · refine ⟨_, c, rfl, .inr ⟨g, off, rfl, fun j u hu => ?_⟩, hn, hm⟩
    rw [hg.cell]
    rw [← h2, List.getElem?_take] at hu
    split at hu
    · rw [List.getElem?_drop] at hu; simpa using hu
    · cases hu
section
variable {P : Program} (w : World)
/-- 'append(v, x...)' where v owns its array, at whatever place in it. -/
theorem run_append_at (t ty e : TypeId) (i : TypeInfo) (z : Value) (size bytes : Nat) (ht : P.underlying t = some (.slice e)) (hi : P.info? e = some i) (hz : i.zero = some z)
    (hsize : i.size = size) (hby : i.bytes = bytes) (hzs : z.cells.size = size) (hsz : 0 < size)
    (v : Value) (n : Nat) (xs : List Value) (blk : Option Nat) (hown : Own w e size v n xs blk)
    (A : Option Addr) (m c : Nat) (news : List Value) (hl : news.length = m * size) (hr : Rd w A news) (h1 : ∀ u ∈ news, u.oneCell' = true)
    (h63 : n + m ≤ maxLen) (hbytes : (n + m) * bytes ≤ 140737488355328) :
    ∃ v' w' blk', (Builtin.append_ #[t, t] ty #[v, .slice A m c]).run P w = .ok v' w' ∧ Own w' e size v' (n + m) (xs ++ news) blk' ∧ Chg (fun k => some k = blk) w w' ∧
      (blk' = blk ∨ blk' = some w.heap.size) := by
  subst hsize
  subst hby
  have hsmall : n + m ≤ 9223372036854775807 := by simp only [maxLen] at h63; omega
  obtain ⟨hxl, B, cap, rfl, hnc, hcm, hrest⟩ := hown
  -- nothing is appended
  rcases Nat.eq_zero_or_pos m with hm0 | hmp
  · subst hm0
    have hnw : news = [] := List.eq_nil_of_length_eq_zero (by simpa using hl)
    subst hnw
    refine ⟨.slice B n cap, w, blk, ?_, by rw [Nat.add_zero, List.append_nil]; exact ⟨hxl, B, cap, rfl, hnc, hcm, hrest⟩, Chg.refl _ _, .inl rfl⟩
    cases A <;> cases B <;> simp [Builtin.append_, run_underlying ht, sizeOf, typeInfo, hi, Builtin.lenOf, Builtin.firstCells, hnc, storeCells, loadCells, loadCellsFrom]
  · obtain ⟨b, off0, rfl, _, hcell⟩ := hr.get (k := 0) (by rw [hl]; exact Nat.mul_pos hmp hsz)
    have hnews : ∀ j u, news[j]? = some u → w.cell? ((⟨b, off0, none⟩ : Addr).add j) = some u := fun j u hu => by rw [add_plain]; exact hcell j u hu
    have hlen : (xs ++ news).length = (n + m) * i.size := by rw [List.length_append, hxl, hl, Nat.add_mul]
    have grown : ∀ (old : Nat), Own (w.drew.alloc (.cells (xs.toArray ++ news.toArray ++ Builtin.zeroCells z.cells (grownCap w (n + m) old e - (n + m))) e)) e i.size
          (.slice (some ⟨w.heap.size, 0, none⟩) (n + m) (grownCap w (n + m) old e)) (n + m) (xs ++ news) (some w.heap.size) ∧
        Chg (fun k => some k = blk) w (w.drew.alloc (.cells (xs.toArray ++ news.toArray ++ Builtin.zeroCells z.cells (grownCap w (n + m) old e - (n + m))) e)) := by
      intro old
      have hge := grownCap_ge w (n + m) old e
      have hcm' : grownCap w (n + m) old e ≤ maxLen := grownCap_le_maxLen w (n + m) old e h63
      refine ⟨⟨hlen, _, _, rfl, hge, hcm', .inr ⟨w.heap.size, 0, _, rfl, rfl, heap_last w.drew _ rfl, ?_, ?_⟩⟩, (Chg.refl _ w).drew.alloc _⟩
      · simp only [Array.size_append, List.size_toArray, size_zeroCells, hzs, hxl, hl, ← Nat.add_mul]
        rw [Nat.zero_add]
        exact Nat.mul_le_mul_right _ (by omega)
      · simp only [Array.toList_append, List.append_assoc, List.drop_zero]
        rw [← List.append_assoc, ← hlen]
        exact List.take_left
    rcases hrest with ⟨rfl, rfl⟩ | ⟨g, off, cur, rfl, rfl, hg, hfit, htake⟩
    · have hn0 : n = 0 := by omega
      subst hn0
      have hx : xs = [] := List.eq_nil_of_length_eq_zero (by simpa using hxl)
      subst hx
      have hgr := grown 0
      simp only [Nat.zero_add, List.nil_append, Array.empty_append] at hgr ⊢
      cases B with
      | none =>
        have hrun := run_append_nil (P := P) w t ty e i z ht hi hz ⟨b, off0, none⟩ m c news hl hnews hmp (by omega) (by have hb := hbytes; simp only [Nat.zero_add] at hb; omega)
        exact ⟨_, _, _, hrun, hgr.1, hgr.2, .inr rfl⟩
      | some ad =>
        have hrun := run_append_grow (P := P) w t ty e i z ht hi hz ad 0 0 [] (by simp) (by simp) ⟨b, off0, none⟩ m c news hl hnews (by omega) (by omega) (by
          have := growslice_fits (need := 0 + m) (old := 0) (bytes := i.bytes) (by omega) hbytes; simpa using this)
        simp only [Nat.zero_add, Array.empty_append] at hrun
        exact ⟨_, _, _, hrun, hgr.1, hgr.2, .inr rfl⟩
    · by_cases hroom : n + m ≤ cap
      · have hnm : (n + m) * i.size ≤ cap * i.size := Nat.mul_le_mul_right _ hroom
        have hmn := Nat.add_mul n m i.size
        have hf := run_firstCells_some (P := P) w i.size m ⟨b, off0, none⟩ m c news hl hnews
        have hst := run_storeCells_at P g (off + n * i.size) e news 0 cur w hg (by simp only [Nat.add_zero]; omega) h1
        simp only [Nat.add_zero] at hst
        have hrun : (Builtin.append_ #[t, t] ty #[.slice (some ⟨g, off, none⟩) n cap, .slice (some ⟨b, off0, none⟩) m c]).run P w =
            .ok (.slice (some ⟨g, off, none⟩) (n + m) cap) (w.setRow g (cur.toList.take (off + n * i.size) ++ news ++ cur.toList.drop (off + n * i.size + news.length)).toArray) := by
          simp [Builtin.append_, run_underlying ht, sizeOf, typeInfo, hi, Builtin.lenOf, hroom, hf, add_plain, hst]
        have hcl : off + n * i.size ≤ cur.toList.length := by rw [Array.length_toList]; omega
        refine ⟨_, _, some g, hrun, ⟨hlen, _, cap, rfl, hroom, hcm, .inr ⟨g, off, _, rfl, rfl, setRow_heap w g cur _ e _ hg, ?_, ?_⟩⟩, Chg.setRow (M := fun k => some k = some g) (Chg.refl _ w) (.inl rfl) _, .inl rfl⟩
        · simp only [List.size_toArray, List.length_append, List.length_take, List.length_drop, Array.length_toList]
          omega
        · have e1 : List.drop off (List.take (off + n * i.size) cur.toList) = xs := by
            rw [List.drop_take, Nat.add_sub_cancel_left]; exact htake
          have e2 : off ≤ (List.take (off + n * i.size) cur.toList).length := by rw [List.length_take]; omega
          simp only [List.append_assoc]
          rw [List.drop_append_of_le_length e2, e1, ← List.append_assoc, ← hlen]
          exact List.take_left
      · have holds : ∀ j u, xs[j]? = some u → w.cell? ((⟨g, off, none⟩ : Addr).add j) = some u := fun j u hu => by
          rw [add_plain, hg.cell]
          rw [← htake, List.getElem?_take] at hu
          split at hu
          · rw [List.getElem?_drop] at hu; simpa using hu
          · cases hu
        have hrun := run_append_grow (P := P) w t ty e i z ht hi hz ⟨g, off, none⟩ n cap xs hxl holds ⟨b, off0, none⟩ m c news hl hnews (by omega) (by omega) (growslice_fits (by omega) hbytes)
        have hgr := grown cap
        exact ⟨_, _, _, hrun, hgr.1, hgr.2, .inr rfl⟩
theorem wp_append_at {o : Oper} {a : Act} {K : Act → World → Prop} {Q : Exit → Act → World → Prop} (s x : Operand) (t : TypeId)
    (ho : o.op = .call { callee := .builtin .append, args := #[s, x], argTypes := #[t, t] })
    (e : TypeId) (i : TypeInfo) (z : Value) (size bytes : Nat) (ht : P.underlying t = some (.slice e)) (hi : P.info? e = some i) (hz : i.zero = some z)
    (hsize : i.size = size) (hby : i.bytes = bytes) (hzs : z.cells.size = size) (hsz : 0 < size)
    (v : Value) (n : Nat) (xs : List Value) (blk : Option Nat) (hs : a.eval s = v) (hown : Own w e size v n xs blk)
    (A : Option Addr) (m c : Nat) (news : List Value) (hx : a.eval x = .slice A m c) (hl : news.length = m * size) (hr : Rd w A news) (h1 : ∀ u ∈ news, u.oneCell' = true)
    (h63 : n + m ≤ maxLen) (hbytes : (n + m) * bytes ≤ 140737488355328)
    (h : ∀ A' c' w' blk', Own w' e size (.slice A' (n + m) c') (n + m) (xs ++ news) blk' → Chg (fun k => some k = blk) w w' → (blk' = blk ∨ blk' = some w.heap.size) → K (a.put o.dst (.slice A' (n + m) c')) w') : o.wp P a w K Q := by
  obtain ⟨v', w', blk', hrun, h2, h3, h4⟩ := run_append_at (P := P) w t o.type e i z size bytes ht hi hz hsize hby hzs hsz v n xs blk hown A m c news hl hr h1 h63 hbytes
  obtain ⟨A', c', rfl, _⟩ := h2.rd
  unfold Oper.wp execOp
  simp only [ho, resolve, invoke, builtin, Sem.run_bind, Sem.run_pure, Result.andThen_ok, List.map_toArray, List.map_cons, List.map_nil, hs, hx, hrun]
  exact h A' c' w' blk' h2 h3 h4
theorem wpList_append_at {ops : Array Oper} {rest : List Oper} {o : Oper} {a : Act} {Q : Exit → Act → World → Prop} (hgd : o.guard = none) (s x : Operand) (t : TypeId)
    (ho : o.op = .call { callee := .builtin .append, args := #[s, x], argTypes := #[t, t] })
    (e : TypeId) (i : TypeInfo) (z : Value) (size bytes : Nat) (ht : P.underlying t = some (.slice e)) (hi : P.info? e = some i) (hz : i.zero = some z)
    (hsize : i.size = size) (hby : i.bytes = bytes) (hzs : z.cells.size = size) (hsz : 0 < size)
    (v : Value) (n : Nat) (xs : List Value) (blk : Option Nat) (hs : a.eval s = v) (hown : Own w e size v n xs blk)
    (A : Option Addr) (m c : Nat) (news : List Value) (hx : a.eval x = .slice A m c) (hl : news.length = m * size) (hr : Rd w A news) (h1 : ∀ u ∈ news, u.oneCell' = true)
    (h63 : n + m ≤ maxLen) (hbytes : (n + m) * bytes ≤ 140737488355328)
    (h : ∀ A' c' w' blk', Own w' e size (.slice A' (n + m) c') (n + m) (xs ++ news) blk' → Chg (fun k => some k = blk) w w' → (blk' = blk ∨ blk' = some w.heap.size) → wpList P ops Q rest (a.put o.dst (.slice A' (n + m) c')) w') : wpList P ops Q (o :: rest) a w :=
  wpList_plain hgd fun _ hK => wp_append_at w s x t ho e i z size bytes ht hi hz hsize hby hzs hsz v n xs blk hs hown A m c news hx hl hr h1 h63 hbytes fun A' c' w' blk' h2 h3 h4 => hK _ _ (h A' c' w' blk' h2 h3 h4)
theorem step_append_at {ops : Array Oper} {o : Oper} {a : Act} {K : Act → World → Prop} {Q : Exit → Act → World → Prop} {E : Prop} (hgd : o.guard = none) (s x : Operand) (t : TypeId)
    (ho : o.op = .call { callee := .builtin .append, args := #[s, x], argTypes := #[t, t] })
    (e : TypeId) (i : TypeInfo) (z : Value) (size bytes : Nat) (ht : P.underlying t = some (.slice e)) (hi : P.info? e = some i) (hz : i.zero = some z)
    (hsize : i.size = size) (hby : i.bytes = bytes) (hzs : z.cells.size = size) (hsz : 0 < size)
    (v : Value) (n : Nat) (xs : List Value) (blk : Option Nat) (hs : a.eval s = v) (hown : Own w e size v n xs blk)
    (A : Option Addr) (m c : Nat) (news : List Value) (hx : a.eval x = .slice A m c) (hl : news.length = m * size) (hr : Rd w A news) (h1 : ∀ u ∈ news, u.oneCell' = true)
    (h63 : n + m ≤ maxLen) (hbytes : (n + m) * bytes ≤ 140737488355328)
    (h : ∀ A' c' w' blk', Own w' e size (.slice A' (n + m) c') (n + m) (xs ++ news) blk' → Chg (fun k => some k = blk) w w' → (blk' = blk ∨ blk' = some w.heap.size) → K (a.put o.dst (.slice A' (n + m) c')) w') :
    if Region.wanted o (yielded ops a.tmps) = true then Oper.wp P o a w K Q else E := by
  rw [if_pos (by simp [Region.wanted, hgd])]
  exact wp_append_at w s x t ho e i z size bytes ht hi hz hsize hby hzs hsz v n xs blk hs hown A m c news hx hl hr h1 h63 hbytes h
end
end Go.Proofs.YtalcafaibmbgjaaDoor
