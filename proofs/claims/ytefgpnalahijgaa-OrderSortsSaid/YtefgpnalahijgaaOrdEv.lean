/- Events in an array, and what putting them in order means: plain. Helper. -/
import Derived.Test.YtefgpnalahijgaaOrdB
import Derived.Laws.IdiomCopy
namespace Go.Proofs.Ytefgpnalahijgaa
open Go.RowKit
set_option linter.unusedVariables false
set_option linter.unusedSimpArgs false
theorem Ky.less_irrefl (a : Ky) : a.less a = false := by simp [Ky.less]
theorem Ky.less_iff (a b : Ky) : a.less b = true ↔ a.T < b.T ∨ a.T = b.T ∧ (a.O < b.O ∨ a.O = b.O ∧ a.S < b.S) := by
  unfold Ky.less
  by_cases h1 : a.T = b.T <;> by_cases h2 : a.O = b.O <;> simp [*] <;> omega
theorem Ky.less_trans {a b c : Ky} (h : a.less b = true) (h' : b.less c = true) : a.less c = true := by
  rw [Ky.less_iff] at *; omega
theorem Ky.less_asymm {a b : Ky} (h : a.less b = true) : b.less a = false := by
  rw [← Bool.not_eq_true, Ky.less_iff]; rw [Ky.less_iff] at h; omega
theorem Ky.le_trans {a b c : Ky} (h : b.less a = false) (h' : c.less b = false) : c.less a = false := by
  rw [← Bool.not_eq_true, Ky.less_iff] at *; omega
theorem Ky.eq_of {a b : Ky} (h : a.less b = false) (h' : b.less a = false) : a = b := by
  rw [← Bool.not_eq_true, Ky.less_iff] at *
  obtain ⟨a1, a2, a3⟩ := a
  obtain ⟨b1, b2, b3⟩ := b
  simp only [Ky.mk.injEq] at *
  omega
theorem Ky.cmp_neg (a b : Ky) : a.cmp b < 0 ↔ a.less b = true := by
  unfold Ky.cmp
  by_cases h : a.less b = true
  · simp [h]
  · by_cases h' : b.less a = true <;> simp [h, h']
/-- An event. -/
structure Ev where
  k : Ky
  p : Int
  q : Int
  d : Int
deriving DecidableEq
def Ev.c (e : Ev) : List Value := [.int .i64 e.k.T, .int .i64 e.k.O, .int .i64 e.k.S, .int .i64 e.p, .int .i64 e.q, .int .i64 e.d]
/-- n events f 0, f 1, .. lie in block g from o on. -/
structure EvsAt (w : World) (g o n : Nat) (f : Nat → Ev) : Prop where
  cell : ∀ i, i < n → ∀ j (hj : j < 6), w.cell? ⟨g, o + i * 6 + j, none⟩ = some ((f i).c[j]'hj)
  froz : ∀ i, i < n → ∀ j, j < 6 → w.frozen? ⟨g, o + i * 6 + j, none⟩ = false
def upd (f : Nat → Ev) (i : Nat) (e : Ev) : Nat → Ev := fun x => if x = i then e else f x
def swp (f : Nat → Ev) (i j : Nat) : Nat → Ev := fun x => if x = i then f j else if x = j then f i else f x
theorem EvsAt.set {w : World} {g o n : Nat} {f : Nat → Ev} (h : EvsAt w g o n f) {i : Nat} (hi : i < n) (e : Ev) : EvsAt (w.setCells g (o + i * 6) e.c) g o n (upd f i e) := by
  constructor
  · intro k hk j hj
    unfold upd
    by_cases hki : k = i
    · subst hki
      rw [if_pos rfl]
      exact World.cell?_setCells_in g e.c (o + k * 6) w (fun j hj => by rw [h.cell k hk j hj]; rfl) j hj
    · rw [if_neg hki, World.cell?_setCells_out, h.cell k hk j hj]
      intro _ _
      show o + k * 6 + j < o + i * 6 ∨ o + i * 6 + 6 ≤ o + k * 6 + j
      omega
  · intro k hk j hj
    rw [World.frozen?_setCells]
    exact h.froz k hk j hj
theorem EvsAt.swap {w : World} {g o n : Nat} {f : Nat → Ev} (h : EvsAt w g o n f) {i j : Nat} (hi : i < n) (hj : j < n) : EvsAt ((w.setCells g (o + j * 6) (f i).c).setCells g (o + i * 6) (f j).c) g o n (swp f i j) := by
  have := (h.set hj (f i)).set hi (f j)
  have e : upd (upd f j (f i)) i (f j) = swp f i j := by
    funext x; unfold upd swp; rfl
  rwa [e] at this
theorem EvsAt.new {w w' : World} {g o n : Nat} {f : Nat → Ev} (h : EvsAt w g o n f) (hB : Below w.heap.size w w') : EvsAt w' g o n f :=
  ⟨fun i hi j hj => (hB.cell (p := ⟨g, o + i * 6 + j, none⟩) (World.block_lt_of_cell? w _ (h.cell i hi j hj))).trans (h.cell i hi j hj),
   fun i hi j hj => (hB.frozen (p := ⟨g, o + i * 6 + j, none⟩) (World.block_lt_of_cell? w _ (h.cell i hi j hj))).trans (h.froz i hi j hj)⟩
theorem EvsAt.drew {w : World} {g o n : Nat} {f : Nat → Ev} (h : EvsAt w g o n f) : EvsAt w.drew g o n f := ⟨h.cell, h.froz⟩
theorem EvsAt.cells {w : World} {g o n : Nat} {f : Nat → Ev} (h : EvsAt w g o n f) {i : Nat} (hi : i < n) :
    w.cell? ⟨g, o + i * 6, none⟩ = some (.int .i64 (f i).k.T) ∧ w.cell? ⟨g, o + i * 6 + 1, none⟩ = some (.int .i64 (f i).k.O) ∧ w.cell? ⟨g, o + i * 6 + 2, none⟩ = some (.int .i64 (f i).k.S) ∧
    w.cell? ⟨g, o + i * 6 + 3, none⟩ = some (.int .i64 (f i).p) ∧ w.cell? ⟨g, o + i * 6 + 4, none⟩ = some (.int .i64 (f i).q) ∧ w.cell? ⟨g, o + i * 6 + 5, none⟩ = some (.int .i64 (f i).d) :=
  ⟨h.cell i hi 0 (by decide), h.cell i hi 1 (by decide), h.cell i hi 2 (by decide), h.cell i hi 3 (by decide), h.cell i hi 4 (by decide), h.cell i hi 5 (by decide)⟩
theorem EvsAt.open_ {w : World} {g o n : Nat} {f : Nat → Ev} (h : EvsAt w g o n f) {i : Nat} (hi : i < n) :
    w.frozen? ⟨g, o + i * 6, none⟩ = false ∧ w.frozen? ⟨g, o + i * 6 + 1, none⟩ = false ∧ w.frozen? ⟨g, o + i * 6 + 2, none⟩ = false ∧
    w.frozen? ⟨g, o + i * 6 + 3, none⟩ = false ∧ w.frozen? ⟨g, o + i * 6 + 4, none⟩ = false ∧ w.frozen? ⟨g, o + i * 6 + 5, none⟩ = false :=
  ⟨h.froz i hi 0 (by decide), h.froz i hi 1 (by decide), h.froz i hi 2 (by decide), h.froz i hi 3 (by decide), h.froz i hi 4 (by decide), h.froz i hi 5 (by decide)⟩
/-- The first n as a list. -/
def seg (f : Nat → Ev) (n : Nat) : List Ev := (List.range n).map f
theorem seg_succ (f : Nat → Ev) (n : Nat) : seg f (n + 1) = seg f n ++ [f n] := by simp [seg, List.range_succ]
theorem seg_congr {f f' : Nat → Ev} {n : Nat} (h : ∀ i, i < n → f i = f' i) : seg f n = seg f' n := by
  unfold seg
  exact List.map_congr_left fun i hi => h i (List.mem_range.1 hi)
/-- Events of one key stand as they stood. -/
def Kept (n : Nat) (f f' : Nat → Ev) : Prop := ∀ k : Ky, (seg f' n).filter (fun e => e.k == k) = (seg f n).filter (fun e => e.k == k)
theorem Kept.refl (n : Nat) (f : Nat → Ev) : Kept n f f := fun _ => rfl
theorem Kept.trans {n : Nat} {f g h : Nat → Ev} (a : Kept n f g) (b : Kept n g h) : Kept n f h := fun k => (b k).trans (a k)
theorem Kept.swap {f : Nat → Ev} {m : Nat} (hne : (f m).k ≠ (f (m + 1)).k) : ∀ n, m + 1 < n → Kept n f (swp f m (m + 1)) := by
  intro n
  induction n with
  | zero => intro h; omega
  | succ n ih =>
    intro h k
    rw [seg_succ, seg_succ, List.filter_append, List.filter_append]
    by_cases hm : m + 1 = n
    · subst hm
      rw [seg_succ, seg_succ, List.filter_append, List.filter_append]
      have e : seg (swp f m (m + 1)) m = seg f m := seg_congr fun i hi => by unfold swp; rw [if_neg (by omega), if_neg (by omega)]
      have e1 : swp f m (m + 1) m = f (m + 1) := by simp [swp]
      have e2 : swp f m (m + 1) (m + 1) = f m := by simp [swp]
      rw [e, e1, e2, List.append_assoc, List.append_assoc]
      congr 1
      by_cases k1 : (f m).k = k
      · have k2 : ¬ (f (m + 1)).k = k := fun h => hne (k1.trans h.symm)
        simp [List.filter_cons, k1, k2]
      · by_cases k2 : (f (m + 1)).k = k <;> simp [List.filter_cons, k1, k2]
    · rw [ih (by omega) k]
      have : swp f m (m + 1) n = f n := by unfold swp; rw [if_neg (by omega), if_neg (by omega)]
      rw [this]
/-- From a to b in order. -/
def Rise (f : Nat → Ev) (a b : Nat) : Prop := ∀ p q, a ≤ p → p < q → q < b → (f q).k.less (f p).k = false
/-- From a to i in order, but for number j, which is not above those behind it. -/
def Near (f : Nat → Ev) (a i j : Nat) : Prop := ∀ p q, a ≤ p → p < q → q ≤ i → q ≠ j → (f q).k.less (f p).k = false
theorem Near.start {f : Nat → Ev} {a i : Nat} (h : Rise f a i) : Near f a i i := fun p q h1 h2 h3 h4 => h p q h1 h2 (by omega)
theorem Near.stop {f : Nat → Ev} {a i j : Nat} (h : Near f a i j) (hj : j ≤ a ∨ a < j ∧ (f j).k.less (f (j - 1)).k = false) : Rise f a (i + 1) := by
  intro p q h1 h2 h3
  by_cases hq : q = j
  · subst hq
    rcases hj with hj | ⟨hj, hl⟩
    · omega
    · by_cases hp : p = q - 1
      · subst hp; exact hl
      · exact Ky.le_trans (h p (q - 1) h1 (by omega) (by omega) (by omega)) hl
  · exact h p q h1 h2 (by omega) hq
theorem Near.step {f : Nat → Ev} {a i m : Nat} (h : Near f a i (m + 1)) (ha : a ≤ m) (hi : m + 1 ≤ i) (hl : (f (m + 1)).k.less (f m).k = true) : Near (swp f m (m + 1)) a i m := by
  intro p q h1 h2 h3 h4
  have e1 : swp f m (m + 1) m = f (m + 1) := by simp [swp]
  have e2 : swp f m (m + 1) (m + 1) = f m := by simp [swp]
  have e3 : ∀ x, x ≠ m → x ≠ m + 1 → swp f m (m + 1) x = f x := fun x g1 g2 => by unfold swp; rw [if_neg g1, if_neg g2]
  by_cases q1 : q = m + 1
  · subst q1
    rw [e2]
    by_cases p1 : p = m
    · subst p1; rw [e1]; exact Ky.less_asymm hl
    · rw [e3 p p1 (by omega)]; exact h p m h1 (by omega) (by omega) (by omega)
  · rw [e3 q (by omega) q1]
    by_cases p1 : p = m
    · subst p1; rw [e1]; exact h (p + 1) q (by omega) (by omega) h3 (by omega)
    · by_cases p2 : p = m + 1
      · subst p2; rw [e2]; exact h m q ha (by omega) h3 (by omega)
      · rw [e3 p p1 p2]; exact h p q h1 h2 h3 q1
end Go.Proofs.Ytefgpnalahijgaa
