/- RoundsBound: what is kept from round to round, plainly. Helper. -/
import Derived.Test.YtbgpbbepeemieaaBndPlain
import Derived.Test.YtbgpbbepeemieaaRndSent
import Derived.Test.YtbgpbbepeemieaaRndNew
namespace Go.Proofs.Ytbgpbbepeemieaa
open Go.RowKit
set_option linter.unusedVariables false
set_option linter.unusedSimpArgs false
theorem length_of_all : ∀ (a l : List Nat), a.Nodup → (∀ p ∈ a, p ∈ l) → a.length ≤ l.length := by
  intro a
  induction a with
  | nil => intro l _ _; exact Nat.zero_le _
  | cons x t ih =>
    intro l hn h
    have hn' := List.nodup_cons.1 hn
    have hx : x ∈ l := h x (by simp)
    have h1 := ih (l.erase x) hn'.2 (fun p hp => by
      have hne : p ≠ x := fun e => hn'.1 (e ▸ hp)
      exact (List.mem_erase_of_ne hne).2 (h p (by simp [hp])))
    rw [List.length_erase_of_mem hx] at h1
    have : 0 < l.length := List.length_pos_of_mem hx
    simp only [List.length_cons]
    omega
theorem full_of {n : Nat} {l : List Nat} (hn : l.Nodup) (h : ∀ p ∈ l, 1 ≤ p ∧ p ≤ n) (ha : ∀ p, 1 ≤ p → p ≤ n → p ∈ l) : l.length = n := by
  have h1 := few_of n l hn h
  have h2 := length_of_all ((List.range n).map (· + 1)) l (by
    rw [List.Nodup, List.pairwise_map]
    exact (List.nodup_range).imp fun {a b} hab => by omega) (fun p hp => by
      obtain ⟨q, hq, rfl⟩ := List.mem_map.1 hp
      have := List.mem_range.1 hq
      exact ha (q + 1) (by omega) (by omega))
  simp at h2
  omega
/-- What holds of rounds, of the least key so far and of who was told. -/
structure Inv (r : Rn) (low : Ky) (told : Nat → Bool) : Prop where
  num : r.num = 1
  c0 : r.col 0 = 1
  le2 : r.half ≤ 2
  ran : ∀ p ∈ r.seen, 1 ≤ p ∧ p ≤ r.n
  nod : r.seen.Nodup
  len : r.seen.length ≤ r.n
  one : r.half = 1 → ∀ p, 1 ≤ p → p ≤ r.n → (r.col p = 1 ↔ p ∈ r.seen)
  two : r.half = 2 → r.seen.length < r.n ∧ ∀ p ∈ r.seen, told p = true
  opn : r.half ≠ 0 → r.is = false ∧ ∀ x : Ky, x.le r.rep → (∀ p, p ≤ r.n → p = 0 ∨ told p = false → x.le (r.least p)) → x.le low
  done : r.half = 0 → r.is = true ∧ r.bnd.le low
theorem Inv.start (n : Nat) : Inv (Rn.new n).begun kmax (fun _ => false) := by
  refine ⟨rfl, rfl, (by show 1 ≤ 2; decide), fun p hp => (by cases hp), List.nodup_nil, Nat.zero_le _, fun _ p h1 _ => ?_, fun h => (by cases h), fun _ => ⟨rfl, fun x hx _ => hx⟩, fun h => (by cases h)⟩
  show (if p = 0 then _ else _) = 1 ↔ p ∈ ([] : List Nat)
  rw [if_neg (by omega)]
  simp [Rn.new]
def Rn.sent (r : Rn) (p : Int) (k : Ky) : Rn := if 0 ≤ p ∧ p ≤ r.n ∧ r.half ≠ 0 ∧ r.col p.toNat = r.num then r.sentTo p.toNat k else r
theorem Rn.sent_half (r : Rn) (p : Int) (k : Ky) : (r.sent p k).half = r.half ∧ (r.sent p k).n = r.n ∧ (r.sent p k).num = r.num ∧ (r.sent p k).col = r.col := by
  unfold Rn.sent; split <;> exact ⟨rfl, rfl, rfl, rfl⟩
/-- Does the law lower the least key at a send? -/
def redL (r : Rn) (told : Nat → Bool) (p : Int) : Bool := decide (0 ≤ p) && decide (p ≤ r.n) && decide (r.colour p = r.num) && (decide (p = 0) || !told p.toNat)
theorem Inv.sent {r : Rn} {low : Ky} {told : Nat → Bool} (h : Inv r low told) (hh : r.half ≠ 0) (p : Int) (k : Ky) :
    Inv (r.sent p k) (if redL r told p = true then low.min k else low) told := by
  have keepAll : ∀ r' : Rn, r'.num = r.num → r'.col = r.col → r'.half = r.half → r'.seen = r.seen → r'.n = r.n → r'.is = r.is → ∀ low', (∀ x : Ky, x.le r'.rep → (∀ q, q ≤ r.n → q = 0 ∨ told q = false → x.le (r'.least q)) → x.le low') → Inv r' low' told := by
    intro r' e1 e2 e3 e4 e5 e6 low' hx
    exact ⟨by rw [e1]; exact h.num, by rw [e2]; exact h.c0, by rw [e3]; exact h.le2, by rw [e4, e5]; exact h.ran, by rw [e4]; exact h.nod, by rw [e4, e5]; exact h.len, by rw [e2, e3, e4, e5]; exact h.one, by rw [e3, e4, e5]; exact h.two,
      fun _ => ⟨by rw [e6]; exact (h.opn hh).1, by rw [e5]; exact hx⟩, fun g => absurd (e3 ▸ g) hh⟩
  have hop := (h.opn hh).2
  unfold Rn.sent
  by_cases hr : 0 ≤ p ∧ p ≤ r.n ∧ r.half ≠ 0 ∧ r.col p.toNat = r.num
  · rw [if_pos hr]
    refine keepAll (r.sentTo p.toNat k) rfl rfl rfl rfl rfl rfl _ fun x hx hl => ?_
    have hl' : ∀ q, q ≤ r.n → q = 0 ∨ told q = false → x.le (r.least q) := fun q h1 h2 => by
      have := hl q h1 h2
      by_cases e : q = p.toNat
      · subst e
        have t : (r.sentTo p.toNat k).least p.toNat = (r.least p.toNat).min k := if_pos rfl
        rw [t] at this
        exact (Ky.le_min.1 this).1
      · have t : (r.sentTo p.toNat k).least q = r.least q := if_neg e
        rw [t] at this
        exact this
    by_cases hl2 : redL r told p = true
    · rw [if_pos hl2]
      refine Ky.le_min.2 ⟨hop x hx hl', ?_⟩
      unfold redL at hl2
      simp only [Bool.and_eq_true, Bool.or_eq_true, decide_eq_true_eq, Bool.not_eq_true'] at hl2
      have := hl p.toNat (by omega) (hl2.2.imp (fun e => by omega) id)
      have t : (r.sentTo p.toNat k).least p.toNat = (r.least p.toNat).min k := if_pos rfl
      rw [t] at this
      exact (Ky.le_min.1 this).2
    · rw [if_neg hl2]
      exact hop x hx hl'
  · rw [if_neg hr]
    have : ¬ redL r told p = true := fun g => hr (by
      unfold redL at g
      simp only [Bool.and_eq_true, Bool.or_eq_true, decide_eq_true_eq, Bool.not_eq_true'] at g
      refine ⟨g.1.1.1, g.1.1.2, hh, ?_⟩
      have := g.1.2
      unfold Rn.colour at this
      rw [if_pos ⟨g.1.1.1, g.1.1.2⟩] at this
      exact this)
    rw [if_neg this]
    exact h
/-- Does the law count a look as a report? c: how many have the round's colour. -/
def tellsL (r : Rn) (p : Nat) (c : Nat) : Bool := !decide (r.refuses p) && (decide (r.half = 2) || decide (c = r.n))
theorem Inv.two_see {r : Rn} {low : Ky} {told : Nat → Bool} (h2 : r.half = 2) (hnum : r.num = 1) (hc0 : r.col 0 = 1) (hran : ∀ p ∈ r.seen, 1 ≤ p ∧ p ≤ r.n) (hnod : r.seen.Nodup) (hlen : r.seen.length < r.n)
    (htold : ∀ p ∈ r.seen, told p = true) (his : r.is = false) (hop : ∀ x : Ky, x.le r.rep → (∀ p, p ≤ r.n → p = 0 ∨ told p = false → x.le (r.least p)) → x.le low)
    {p : Nat} (hp1 : 1 ≤ p) (hp : p ≤ r.n) (hm : p ∉ r.seen) (k : Ky) : Inv (r.seeTwo p k) (low.min k) (fun q => if q = p then true else told q) := by
  have hran' : ∀ q ∈ p :: r.seen, 1 ≤ q ∧ q ≤ r.n := fun q hq => by
    rcases List.mem_cons.1 hq with rfl | hq
    · exact ⟨hp1, hp⟩
    · exact hran q hq
  have hnod' : (p :: r.seen).Nodup := List.nodup_cons.2 ⟨hm, hnod⟩
  have htold' : ∀ q ∈ p :: r.seen, (if q = p then true else told q) = true := fun q hq => by
    by_cases e : q = p
    · rw [if_pos e]
    · rw [if_neg e]
      exact htold q ((List.mem_cons.1 hq).resolve_left e)
  unfold Rn.seeTwo
  by_cases hl : r.seen.length + 1 = r.n
  · rw [if_pos hl]
    refine ⟨hnum, hc0, Nat.zero_le _, hran', hnod', by simp; omega, fun g => (by cases g), fun g => (by cases g), fun g => absurd rfl g, fun _ => ⟨rfl, ?_⟩⟩
    show ((r.rep.min (k.min (r.least p))).min (r.least 0)).le (low.min k)
    obtain ⟨y, hy⟩ : ∃ y, y = (r.rep.min (k.min (r.least p))).min (r.least 0) := ⟨_, rfl⟩
    rw [← hy]
    have hx : y.le ((r.rep.min (k.min (r.least p))).min (r.least 0)) := by rw [← hy]; exact Ky.le_refl y
    obtain ⟨g1, g0⟩ := Ky.le_min.1 hx
    obtain ⟨g1, g2⟩ := Ky.le_min.1 g1
    obtain ⟨g2, g3⟩ := Ky.le_min.1 g2
    refine Ky.le_min.2 ⟨hop y g1 fun q hq hcase => ?_, g2⟩
    by_cases e0 : q = 0
    · subst e0; exact g0
    · have hin := all_of hnod' hran' (by simpa using hl) q (by omega) hq
      rcases List.mem_cons.1 hin with rfl | hin
      · exact g3
      · have := htold q hin
        rcases hcase with e | e
        · exact absurd e e0
        · rw [this] at e; cases e
  · rw [if_neg hl]
    refine ⟨hnum, hc0, by rw [show ({ r with seen := p :: r.seen, rep := r.rep.min (k.min (r.least p)) } : Rn).half = r.half from rfl, h2]; exact Nat.le_refl _, hran', hnod', by simp; omega, fun g => (by rw [show ({ r with seen := p :: r.seen, rep := r.rep.min (k.min (r.least p)) } : Rn).half = r.half from rfl, h2] at g; exact absurd g (by decide)), fun _ => ⟨by simp; omega, htold'⟩, fun _ => ⟨his, fun x hx hl2 => ?_⟩, fun g => (by rw [show ({ r with seen := p :: r.seen, rep := r.rep.min (k.min (r.least p)) } : Rn).half = r.half from rfl, h2] at g; exact absurd g (by decide))⟩
    obtain ⟨g1, g2⟩ := Ky.le_min.1 (show x.le (r.rep.min (k.min (r.least p))) from hx)
    obtain ⟨g2, g3⟩ := Ky.le_min.1 g2
    refine Ky.le_min.2 ⟨hop x g1 fun q hq hcase => ?_, g2⟩
    by_cases e : q = p
    · subst e; exact g3
    · exact hl2 q hq (hcase.imp id fun g => by rw [if_neg e]; exact g)
theorem Inv.see {r : Rn} {low : Ky} {told : Nat → Bool} (h : Inv r low told) (hh : r.half ≠ 0) {p : Nat} (hp1 : 1 ≤ p) (hp : p ≤ r.n) (k : Ky) (c : Nat)
    (hc : c = r.n ↔ ∀ q, 1 ≤ q → q ≤ r.n → r.col q = 1) :
    Inv (r.see p k) (if tellsL r p c = true then low.min k else low) (if tellsL r p c = true then (fun q => if q = p then true else told q) else told) := by
  unfold Rn.see
  by_cases hr : r.refuses p
  · have : ¬ tellsL r p c = true := by unfold tellsL; simp [hr]
    rw [if_pos hr, if_neg this, if_neg this]
    exact h
  · rw [if_neg hr]
    have hm : p ∉ r.turned.seen := fun g => hr (.inr g)
    have hle := h.le2
    by_cases h1 : r.half = 1
    · by_cases hl : r.seen.length = r.n
      · have et : r.turned = { r with half := 2, seen := [] } := if_pos ⟨h1, hl⟩
        have hall := all_of h.nod h.ran hl
        have hcn : c = r.n := hc.2 fun q g1 g2 => ((h.one h1) q g1 g2).2 (hall q g1 g2)
        have ht : tellsL r p c = true := by unfold tellsL; simp [hr, hcn]
        rw [if_pos ht, if_pos ht, et, if_neg (by simp)]
        exact Inv.two_see (r := { r with half := 2, seen := [] }) rfl h.num h.c0 (fun q hq => (by cases hq)) List.nodup_nil (by show 0 < r.n; omega) (fun q hq => (by cases hq)) (h.opn hh).1 (h.opn hh).2 hp1 hp (by simp) k
      · have et : r.turned = r := if_neg (fun g => hl g.2)
        rw [et] at hm ⊢
        have hcn : c ≠ r.n := fun e => hl (full_of h.nod h.ran fun q g1 g2 => ((h.one h1) q g1 g2).1 (hc.1 e q g1 g2))
        have ht : ¬ tellsL r p c = true := by unfold tellsL; simp [h1, hcn]
        have hlen := h.len
        rw [if_neg ht, if_neg ht, if_pos h1]
        refine ⟨h.num, ?_, h.le2, fun q hq => ?_, List.nodup_cons.2 ⟨hm, h.nod⟩, by show (p :: r.seen).length ≤ r.n; simp; omega, fun _ q g1 g2 => ?_, fun g => absurd (h1.symm.trans g) (by decide), fun g => h.opn g, fun g => h.done g⟩
        · show (if 0 = p then r.num else r.col 0) = 1
          rw [if_neg (by omega)]; exact h.c0
        · rcases List.mem_cons.1 (show q ∈ p :: r.seen from hq) with rfl | hq
          · exact ⟨hp1, hp⟩
          · exact h.ran q hq
        · show (if q = p then r.num else r.col q) = 1 ↔ q ∈ p :: r.seen
          by_cases e : q = p
          · subst e; rw [if_pos rfl, h.num]; simp
          · rw [if_neg e, (h.one h1) q g1 g2]; simp [e]
    · have h2 : r.half = 2 := by omega
      have et : r.turned = r := if_neg (fun g => h1 g.1)
      rw [et] at hm ⊢
      have ht : tellsL r p c = true := by unfold tellsL; simp [hr, h2]
      rw [if_pos ht, if_pos ht, if_neg h1]
      exact Inv.two_see h2 h.num h.c0 h.ran h.nod (h.two h2).1 (h.two h2).2 (h.opn hh).1 (h.opn hh).2 hp1 hp hm k
end Go.Proofs.Ytbgpbbepeemieaa
