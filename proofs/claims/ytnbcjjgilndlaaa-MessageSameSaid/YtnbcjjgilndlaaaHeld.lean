/- Moves of a drawn region's walk by hand: an operation is taken first, or skipped where its guard is false; its slot is named. -/
import Derived.Deep.RegionHeld3
import Derived.Test.YtnbcjjgilndlaaaMore
namespace Go.Proofs.Ytnbcjjgilndlaaa
open Go.RowKit
section
variable {P : Program} {ops : Array Oper} {Q : Exit → Act → World → Prop} {md : Region.Mode} {S : World → Prop}
theorem put_some (ts : Array Value) (ds : List Deferred) (d : Nat) (v : Value) : Act.put ⟨ts, ds⟩ (some d) v = ⟨ts.setIfInBounds d v, ds⟩ := rfl
/-- Number i runs first, its value goes into slot d. -/
theorem wpAnyH_run {i d : Nat} {oi : Oper} {v : Value} {fuel : Nat} {listed : Array Bool} {ts : Array Value} {ds : List Deferred} {w : World} (hi : ops[i]? = some oi) (hd : oi.dst = some d)
    (hs : Region.noSelect ops = true) (hf : Region.free md ops listed i = true) (hr : (Region.ready md ops listed).contains i = true)
    (hQ : ∀ c a w, Q (.panic c) (a.put oi.dst v) w → Q (.panic c) a w) (hw : Region.wanted oi (yielded ops ts) = true) (hy : ∀ u, S u → (execOp (Act.eval ⟨ts, ds⟩) oi).run P u = .ok (.value v) u) (hS : S w)
    (h : wpAnyH P md ops Q S fuel (listed.setIfInBounds i true) ⟨ts.setIfInBounds d v, ds⟩ w) : wpAnyH P md ops Q S (fuel + 1) listed ⟨ts, ds⟩ w :=
  wpAnyH_take hi hs hf hr hQ (.inl ⟨hw, hy⟩) hS (by rw [hd, put_some]; exact h)
/-- Number i is skipped. -/
theorem wpAnyH_skip {i d : Nat} {oi : Oper} {fuel : Nat} {listed : Array Bool} {ts : Array Value} {ds : List Deferred} {w : World} (hi : ops[i]? = some oi) (hd : oi.dst = some d)
    (hs : Region.noSelect ops = true) (hf : Region.free md ops listed i = true) (hr : (Region.ready md ops listed).contains i = true)
    (hQ : ∀ c a w, Q (.panic c) (a.put oi.dst undef) w → Q (.panic c) a w) (hw : Region.wanted oi (yielded ops ts) = false) (hS : S w)
    (h : wpAnyH P md ops Q S fuel (listed.setIfInBounds i true) ⟨ts.setIfInBounds d undef, ds⟩ w) : wpAnyH P md ops Q S (fuel + 1) listed ⟨ts, ds⟩ w :=
  wpAnyH_take hi hs hf hr hQ (.inr ⟨hw, rfl⟩) hS (by rw [hd, put_some]; exact h)
/-- Number i alone may come up. -/
theorem wpAnyH_only {i : Nat} {oi : Oper} {fuel : Nat} {listed : Array Bool} {a : Act} {w : World} (hi : ops[i]? = some oi) (hr : Region.ready md ops listed = [i]) (hw : Region.wanted oi (yielded ops a.tmps) = true)
    (h : ∀ K : Act → World → Prop, (∀ b u, S u → wpAnyH P md ops Q S fuel (listed.setIfInBounds i true) b u → K b u) → Oper.wp P oi a w K Q) : wpAnyH P md ops Q S (fuel + 1) listed a w :=
  ⟨fun h0 => (by rw [hr] at h0; cases h0), fun j hj => by
    rw [hr] at hj
    have e : j = i := (by simpa using hj)
    subst e
    unfold wpOp
    rw [hi]
    simp only [hw, if_true]
    exact .inl (h _ fun b u h1 h2 => ⟨h1, h2⟩)⟩
end
end Go.Proofs.Ytnbcjjgilndlaaa
