/- A region that draws its order, whose loads are taken first by a condition on the world that some last operations need not keep. -/
import Derived.OrdersHeld
import Derived.Test.YtnbcjjgilndlaaaRdLib
namespace Go.Proofs.Ytnbcjjgilndlaaa
open Go.RowKit
section
variable {P : Program} {ops : Array Oper} {Q : Exit → Act → World → Prop} {md : Region.Mode} {S : World → Prop} {z : Nat}
/-- Whatever order is picked from here on; S holds behind each operation but the last one. -/
def wpAnyE (P : Program) (md : Region.Mode) (ops : Array Oper) (Q : Exit → Act → World → Prop) (S : World → Prop) (z : Nat) : Nat → Array Bool → Act → World → Prop
  | 0, l, a, w => Region.ready md ops l = [] ∧ Q .normal a w
  | n + 1, l, a, w => (Region.ready md ops l = [] → Q .normal a w) ∧
    ∀ i ∈ Region.ready md ops l, wpOp P ops Q i (fun b u => (i = z ∨ S u) ∧ wpAnyE P md ops Q S z n (l.setIfInBounds i true) b u) a w
theorem wpAny_of_E : ∀ (n : Nat) (l : Array Bool) (a : Act) (w : World), wpAnyE P md ops Q S z n l a w → wpAny P md ops Q n l a w
  | 0, _, _, _, h => h
  | n + 1, _, _, _, h => ⟨h.1, fun i hi => wpOp_mono (fun b u g => wpAny_of_E n _ b u g.2) (h.2 i hi)⟩
/-- Operation z waits for operation i. -/
def waits (md : Region.Mode) (ops : Array Oper) (z i : Nat) : Bool := match ops[z]? with
  | some o => o.after.any fun e => Region.binds md e && e.on == i
  | none => false
theorem waits_not {l : Array Bool} {i : Nat} (h : waits md ops z i = true) (hi : i ∈ Region.ready md ops l) : z ∉ Region.ready md ops l := by
  intro hz
  obtain ⟨_, oz, hoz, hall⟩ := mem_ready.1 hz
  unfold waits at h
  rw [hoz] at h
  obtain ⟨e, he, hb⟩ := Array.any_eq_true'.1 h
  simp only [Bool.and_eq_true, beq_iff_eq] at hb
  have h1 := hall e he hb.1
  have h0 := (mem_ready.1 hi).1
  rw [hb.2] at h1
  rcases Nat.lt_or_ge i l.size with h' | h'
  · simp [h'] at h0 h1; rw [h0] at h1; cases h1
  · simp [Array.getElem?_eq_none h'] at h1
theorem wpAnyE_first {i : Nat} {oi : Oper} {v : Value} (hi : ops[i]? = some oi) (hsel : ∀ (j : Nat) (o : Oper) cs b, ops[j]? = some o → o.op ≠ .select cs b)
    (hQ : ∀ c a w, Q (.panic c) (a.put oi.dst v) w → Q (.panic c) a w) (hwt : waits md ops z i = true) :
    ∀ (n : Nat) (l : Array Bool) (a : Act) (w : World),
      (∀ j oj, ops[j]? = some oj → j ≠ i → l.getD j true = false → (∀ e ∈ oj.after, Region.binds md e = true → e.on ≠ i) → oi.apart ops oj = true) →
      i ∈ Region.ready md ops l → YieldsIf P ops S oi v a → S w →
      wpAnyE P md ops Q S z n (l.setIfInBounds i true) (a.put oi.dst v) w → wpAnyE P md ops Q S z (n + 1) l a w := by
  intro n
  induction n with
  | zero =>
    intro l a w _ hr hy hS H
    refine ⟨fun h => (by rw [h] at hr; cases hr), fun j hj => ?_⟩
    by_cases e : j = i
    · subst e; exact hy.wpOp hi hS ⟨.inr hS, H⟩
    · have := ready_mono hj e
      rw [H.1] at this
      cases this
  | succ n ih =>
    intro l a w hfree hr hy hS H
    refine ⟨fun h => (by rw [h] at hr; cases hr), fun j hj => ?_⟩
    by_cases e : j = i
    · subst e; exact hy.wpOp hi hS ⟨.inr hS, H⟩
    · have h1 := H.2 j (ready_mono hj e)
      obtain ⟨hjun, oj, hoj, hall⟩ := mem_ready.1 hj
      have hnot : ∀ e ∈ oj.after, Region.binds md e = true → e.on ≠ i := fun e he hb heq => by
        have h1 := hall e he hb
        have h0 := (mem_ready.1 hr).1
        rw [heq] at h1
        rcases Nat.lt_or_ge i l.size with h' | h'
        · simp [h'] at h0 h1; rw [h0] at h1; cases h1
        · simp [Array.getElem?_eq_none h'] at h1
      have h2 := wpOp_putIf hoj (hfree j oj hoj e hjun hnot) (fun cs b => hsel i oi cs b hi) (fun cs b => hsel j oj cs b hoj) hQ hy h1
      have hfree' : ∀ k ok, ops[k]? = some ok → k ≠ i → (l.setIfInBounds j true).getD k true = false →
          (∀ e ∈ ok.after, Region.binds md e = true → e.on ≠ i) → oi.apart ops ok = true := fun k ok hk hki hun hno => by
        refine hfree k ok hk hki ?_ hno
        by_cases hjk : j = k
        · subst hjk; exact hjun
        · rw [getD_set_ne true hjk] at hun; exact hun
      have hri := ready_mono hr (Ne.symm e)
      refine wpOp_mono (fun b u g => ?_) h2
      have hu : S u := by
        rcases g.2.1 with g0 | g0
        · subst g0; exact absurd hj (waits_not hwt hr)
        · exact g0
      exact ⟨.inr hu, ih (l.setIfInBounds j true) b u hfree' hri g.1 hu (by rw [Array.setIfInBounds_comm _ _ e]; exact g.2.2)⟩
theorem wpAnyE_take {i : Nat} {oi : Oper} {v : Value} {n : Nat} {l : Array Bool} {a : Act} {w : World} (hi : ops[i]? = some oi)
    (hs : Region.noSelect ops = true) (hf : Region.free md ops l i = true) (hr : (Region.ready md ops l).contains i = true) (hwt : waits md ops z i = true)
    (hQ : ∀ c a w, Q (.panic c) (a.put oi.dst v) w → Q (.panic c) a w) (hw : Region.wanted oi (yielded ops a.tmps) = true) (hy : ∀ u, S u → (execOp a.eval oi).run P u = .ok (.value v) u) (hS : S w)
    (h : wpAnyE P md ops Q S z n (l.setIfInBounds i true) (a.put oi.dst v) w) : wpAnyE P md ops Q S z (n + 1) l a w :=
  wpAnyE_first hi (Region.noSelect_spec hs) hQ hwt n l a w (Region.free_spec hi hf) (by simpa using hr) (.inl ⟨hw, hy⟩) hS h
/-- Operation z waits for operation i, straight or by others. -/
def waitsT (md : Region.Mode) (ops : Array Oper) : Nat → Nat → Nat → Bool
  | 0, _, _ => false
  | f + 1, z, i => match ops[z]? with
    | some o => o.after.any fun e => Region.binds md e && (e.on == i || waitsT md ops f e.on i)
    | none => false
/-- What a listed operation waits for is listed. -/
def Closed (md : Region.Mode) (ops : Array Oper) (l : Array Bool) : Prop := ∀ j o, ops[j]? = some o → l.getD j false = true → ∀ e ∈ o.after, Region.binds md e = true → l.getD e.on false = true
def closedB (md : Region.Mode) (ops : Array Oper) (l : Array Bool) : Bool := (List.range ops.size).all fun j => match ops[j]? with
  | some o => !l.getD j false || o.after.all fun e => !Region.binds md e || l.getD e.on false
  | none => true
theorem closed_of {l : Array Bool} (h : closedB md ops l = true) : Closed md ops l := by
  intro j o ho hj e he hb
  unfold closedB at h
  have hjs : j < ops.size := by
    rcases Nat.lt_or_ge j ops.size with h' | h'
    · exact h'
    · rw [Array.getElem?_eq_none h'] at ho; cases ho
  have h1 := List.all_eq_true.1 h j (List.mem_range.2 hjs)
  rw [ho] at h1
  simp only [hj, Bool.not_true, Bool.false_or] at h1
  have h2 := Array.all_eq_true'.1 h1 e he
  simpa [hb] using h2
theorem not_both {l : Array Bool} {i : Nat} (h0 : l.getD i true = false) (h1 : l.getD i false = true) : False := by
  rcases Nat.lt_or_ge i l.size with h' | h'
  · simp [h'] at h0 h1; rw [h0] at h1; cases h1
  · simp [Array.getElem?_eq_none h'] at h1
theorem waitsT_listed {l : Array Bool} (hc : Closed md ops l) {i : Nat} (h0 : l.getD i true = false) : ∀ (f z : Nat), waitsT md ops f z i = true → l.getD z false = true → False := by
  intro f
  induction f with
  | zero => intro z h _; cases h
  | succ f ih =>
    intro z h hz
    unfold waitsT at h
    cases ho : ops[z]? with
    | none => rw [ho] at h; cases h
    | some o =>
      rw [ho] at h
      obtain ⟨e, he, hb⟩ := Array.any_eq_true'.1 h
      simp only [Bool.and_eq_true, Bool.or_eq_true, beq_iff_eq] at hb
      have h1 := hc z o ho hz e he hb.1
      rcases hb.2 with h2 | h2
      · rw [h2] at h1; exact not_both h0 h1
      · exact ih e.on h2 h1
theorem waitsT_not {l : Array Bool} (hc : Closed md ops l) {i f : Nat} (h : waitsT md ops f z i = true) (hi : i ∈ Region.ready md ops l) : z ∉ Region.ready md ops l := by
  intro hz
  obtain ⟨_, oz, hoz, hall⟩ := mem_ready.1 hz
  have h0 := (mem_ready.1 hi).1
  cases f with
  | zero => cases h
  | succ f =>
    unfold waitsT at h
    rw [hoz] at h
    obtain ⟨e, he, hb⟩ := Array.any_eq_true'.1 h
    simp only [Bool.and_eq_true, Bool.or_eq_true, beq_iff_eq] at hb
    have h1 := hall e he hb.1
    rcases hb.2 with h2 | h2
    · rw [h2] at h1; exact not_both h0 h1
    · exact waitsT_listed hc h0 f e.on h2 h1
theorem Closed.next {l : Array Bool} (hc : Closed md ops l) {j : Nat} (hj : j ∈ Region.ready md ops l) : Closed md ops (l.setIfInBounds j true) := by
  obtain ⟨_, oj, hoj, hall⟩ := mem_ready.1 hj
  have up : ∀ x, l.getD x false = true → (l.setIfInBounds j true).getD x false = true := fun x hx => by
    rcases Nat.lt_or_ge x l.size with h' | h'
    · simp [h'] at hx
      simp [h', Array.getElem_setIfInBounds, hx]
    · simp [Array.getElem?_eq_none h'] at hx
  intro k o ho hk e he hb
  by_cases hjk : j = k
  · subst hjk
    rw [hoj] at ho
    injection ho with ho
    subst ho
    exact up _ (hall e he hb)
  · have hk' : l.getD k false = true := by
      rcases Nat.lt_or_ge k l.size with h' | h'
      · simp [h', hjk] at hk
        simp [h', hk]
      · rw [Array.getD_eq_getD_getElem?, Array.getElem?_eq_none (by simpa using h')] at hk; cases hk
    exact up _ (hc k o ho hk' e he hb)
theorem wpAnyE_firstT {f i : Nat} {oi : Oper} {v : Value} (hi : ops[i]? = some oi) (hsel : ∀ (j : Nat) (o : Oper) cs b, ops[j]? = some o → o.op ≠ .select cs b)
    (hQ : ∀ c a w, Q (.panic c) (a.put oi.dst v) w → Q (.panic c) a w) (hwt : waitsT md ops f z i = true) :
    ∀ (n : Nat) (l : Array Bool) (a : Act) (w : World),
      (∀ j oj, ops[j]? = some oj → j ≠ i → l.getD j true = false → (∀ e ∈ oj.after, Region.binds md e = true → e.on ≠ i) → oi.apart ops oj = true) →
      Closed md ops l → i ∈ Region.ready md ops l → YieldsIf P ops S oi v a → S w →
      wpAnyE P md ops Q S z n (l.setIfInBounds i true) (a.put oi.dst v) w → wpAnyE P md ops Q S z (n + 1) l a w := by
  intro n
  induction n with
  | zero =>
    intro l a w _ hcl hr hy hS H
    refine ⟨fun h => (by rw [h] at hr; cases hr), fun j hj => ?_⟩
    by_cases e : j = i
    · subst e; exact hy.wpOp hi hS ⟨.inr hS, H⟩
    · have := ready_mono hj e
      rw [H.1] at this
      cases this
  | succ n ih =>
    intro l a w hfree hcl hr hy hS H
    refine ⟨fun h => (by rw [h] at hr; cases hr), fun j hj => ?_⟩
    by_cases e : j = i
    · subst e; exact hy.wpOp hi hS ⟨.inr hS, H⟩
    · have h1 := H.2 j (ready_mono hj e)
      obtain ⟨hjun, oj, hoj, hall⟩ := mem_ready.1 hj
      have hnot : ∀ e ∈ oj.after, Region.binds md e = true → e.on ≠ i := fun e he hb heq => by
        have h1 := hall e he hb
        have h0 := (mem_ready.1 hr).1
        rw [heq] at h1
        rcases Nat.lt_or_ge i l.size with h' | h'
        · simp [h'] at h0 h1; rw [h0] at h1; cases h1
        · simp [Array.getElem?_eq_none h'] at h1
      have h2 := wpOp_putIf hoj (hfree j oj hoj e hjun hnot) (fun cs b => hsel i oi cs b hi) (fun cs b => hsel j oj cs b hoj) hQ hy h1
      have hfree' : ∀ k ok, ops[k]? = some ok → k ≠ i → (l.setIfInBounds j true).getD k true = false →
          (∀ e ∈ ok.after, Region.binds md e = true → e.on ≠ i) → oi.apart ops ok = true := fun k ok hk hki hun hno => by
        refine hfree k ok hk hki ?_ hno
        by_cases hjk : j = k
        · subst hjk; exact hjun
        · rw [getD_set_ne true hjk] at hun; exact hun
      have hri := ready_mono hr (Ne.symm e)
      refine wpOp_mono (fun b u g => ?_) h2
      have hu : S u := by
        rcases g.2.1 with g0 | g0
        · subst g0; exact absurd hj (waitsT_not hcl hwt hr)
        · exact g0
      exact ⟨.inr hu, ih (l.setIfInBounds j true) b u hfree' (hcl.next hj) hri g.1 hu (by rw [Array.setIfInBounds_comm _ _ e]; exact g.2.2)⟩
theorem wpAnyE_takeT {i : Nat} {oi : Oper} {v : Value} {n : Nat} {l : Array Bool} {a : Act} {w : World} (hi : ops[i]? = some oi)
    (hs : Region.noSelect ops = true) (hf : Region.free md ops l i = true) (hr : (Region.ready md ops l).contains i = true) (hwt : waitsT md ops 40 z i = true) (hcl : closedB md ops l = true)
    (hQ : ∀ c a w, Q (.panic c) (a.put oi.dst v) w → Q (.panic c) a w) (hw : Region.wanted oi (yielded ops a.tmps) = true) (hy : ∀ u, S u → (execOp a.eval oi).run P u = .ok (.value v) u) (hS : S w)
    (h : wpAnyE P md ops Q S z n (l.setIfInBounds i true) (a.put oi.dst v) w) : wpAnyE P md ops Q S z (n + 1) l a w :=
  wpAnyE_firstT hi (Region.noSelect_spec hs) hQ hwt n l a w (Region.free_spec hi hf) (closed_of hcl) (by simpa using hr) (.inl ⟨hw, hy⟩) hS h
theorem wpAnyE_one {i : Nat} {n : Nat} {l : Array Bool} {a : Act} {w : World} (hr : Region.ready md ops l = [i])
    (h : wpOp P ops Q i (fun b u => (i = z ∨ S u) ∧ wpAnyE P md ops Q S z n (l.setIfInBounds i true) b u) a w) : wpAnyE P md ops Q S z (n + 1) l a w :=
  ⟨fun h0 => (by rw [hr] at h0; cases h0), fun j hj => by
    rw [hr] at hj
    have e : j = i := (by simpa using hj)
    subst e
    exact h⟩
theorem wpAnyE_step {i : Nat} {o : Oper} {n : Nat} {l : Array Bool} {a : Act} {w : World} (hr : Region.ready md ops l = [i]) (hi : ops[i]? = some o) (hw : Region.wanted o (yielded ops a.tmps) = true)
    (h : ∀ K : Act → World → Prop, (∀ b u, (i = z ∨ S u) → wpAnyE P md ops Q S z n (l.setIfInBounds i true) b u → K b u) → Oper.wp P o a w K Q) : wpAnyE P md ops Q S z (n + 1) l a w :=
  wpAnyE_one hr (by
    unfold wpOp
    rw [hi]
    simp only [hw, if_true]
    exact .inl (h _ fun b u h1 h2 => ⟨h1, h2⟩))
theorem wpAnyE_done {l : Array Bool} {a : Act} {w : World} (hr : Region.ready md ops l = []) (h : Q .normal a w) : ∀ n, wpAnyE P md ops Q S z n l a w
  | 0 => ⟨hr, h⟩
  | _ + 1 => ⟨fun _ => h, by rw [hr]; simp⟩
theorem wp_region_E (S : World → Prop) (z : Nat) {id : Nat} {a : Act} {w : World} (hm : P.follows .mixedOrders = true)
    (h : wpAnyE P .any ops Q S z ops.size (Array.replicate ops.size false) a w.drew) : (Code.region id ops true).wp P Q a w :=
  wp_region_any hm (wpAny_of_E _ _ _ _ h)
end
end Go.Proofs.Ytnbcjjgilndlaaa
/- A region that draws its order, whose loads are taken first by a condition on the world that some last operations need not keep. -/
namespace Go.Proofs.Ytnbcjjgilndlaaa
open Go.RowKit
section
variable {P : Program} {ops : Array Oper} {Q : Exit → Act → World → Prop} {md : Region.Mode} {S : World → Prop} {z : List Nat}
/-- Is one of z listed? -/
def zl (z : List Nat) (l : Array Bool) : Bool := z.any fun y => l.getD y false
theorem zl_next {z : List Nat} {l : Array Bool} {j : Nat} (h : zl z l = true) : zl z (l.setIfInBounds j true) = true := by
  unfold zl at *
  obtain ⟨y, hy, h⟩ := List.any_eq_true.1 h
  refine List.any_eq_true.2 ⟨y, hy, ?_⟩
  rcases Nat.lt_or_ge y l.size with h' | h'
  · simp [h'] at h
    simp [h', Array.getElem_setIfInBounds, h]
  · simp [Array.getElem?_eq_none h'] at h
/-- Whatever order is picked from here on; S holds until one of z is done. -/
def wpAnyF (P : Program) (md : Region.Mode) (ops : Array Oper) (Q : Exit → Act → World → Prop) (S : World → Prop) (z : List Nat) : Nat → Array Bool → Act → World → Prop
  | 0, l, a, w => Region.ready md ops l = [] ∧ Q .normal a w
  | n + 1, l, a, w => (Region.ready md ops l = [] → Q .normal a w) ∧
    ∀ i ∈ Region.ready md ops l, wpOp P ops Q i (fun b u => (zl z (l.setIfInBounds i true) = true ∨ S u) ∧ wpAnyF P md ops Q S z n (l.setIfInBounds i true) b u) a w
theorem wpAny_of_F : ∀ (n : Nat) (l : Array Bool) (a : Act) (w : World), wpAnyF P md ops Q S z n l a w → wpAny P md ops Q n l a w
  | 0, _, _, _, h => h
  | n + 1, _, _, _, h => ⟨h.1, fun i hi => wpOp_mono (fun b u g => wpAny_of_F n _ b u g.2) (h.2 i hi)⟩
/-- What waits for operation i, straight or by others (in one sweep). -/
def reachStep (md : Region.Mode) (ops : Array Oper) (s : List Nat) (j : Nat) : List Nat := match ops[j]? with
  | some o => bif o.after.any fun e => Region.binds md e && s.contains e.on then j :: s else s
  | none => s
def reach (md : Region.Mode) (ops : Array Oper) (i : Nat) : List Nat := (List.range ops.size).foldl (reachStep md ops) [i]
def Stuck (md : Region.Mode) (ops : Array Oper) (l : Array Bool) (i : Nat) (s : List Nat) : Prop :=
  ∀ j ∈ s, ¬ l.getD j false = true ∧ (j = i ∨ ∃ o e, ops[j]? = some o ∧ e ∈ o.after ∧ Region.binds md e = true ∧ ¬ l.getD e.on false = true)
theorem Stuck.step {l : Array Bool} {i : Nat} {s : List Nat} (hc : Closed md ops l) (h : Stuck md ops l i s) (j : Nat) : Stuck md ops l i (reachStep md ops s j) := by
  unfold reachStep
  cases ho : ops[j]? with
  | none => exact h
  | some o =>
    dsimp only
    cases hb : o.after.any fun e => Region.binds md e && s.contains e.on with
    | false => exact h
    | true =>
      obtain ⟨e, he, hb⟩ := Array.any_eq_true'.1 hb
      simp only [Bool.and_eq_true, List.contains_iff_mem] at hb
      have hn := (h e.on hb.2).1
      intro k hk
      rcases List.mem_cons.1 hk with rfl | hk
      · exact ⟨fun hl => hn (hc k o ho hl e he hb.1), .inr ⟨o, e, ho, he, hb.1, hn⟩⟩
      · exact h k hk
theorem Stuck.all {l : Array Bool} {i : Nat} (hc : Closed md ops l) : ∀ (js s : List Nat), Stuck md ops l i s → Stuck md ops l i (js.foldl (reachStep md ops) s)
  | [], _, h => h
  | j :: js, _, h => Stuck.all hc js _ (h.step hc j)
def reachAll (md : Region.Mode) (ops : Array Oper) (z : List Nat) (i : Nat) : Bool := (fun s : List Nat => z.all fun y => s.contains y) (reach md ops i)
theorem reachAll_not {z : List Nat} {i : Nat} (h : reachAll md ops z i = true) : ∀ l : Array Bool, Closed md ops l → l.getD i true = false → ¬ zl z l = true := by
  intro l hc h0 hz
  obtain ⟨y, hy, hl⟩ := List.any_eq_true.1 hz
  have h1 := List.all_eq_true.1 h y hy
  have hs : Stuck md ops l i (reach md ops i) := Stuck.all hc _ _ fun j hj => by
    rw [List.mem_singleton] at hj
    subst hj
    exact ⟨fun h1 => not_both h0 h1, .inl rfl⟩
  exact (hs y (by simpa using h1)).1 hl
/-- An operation is taken first: under S, where z waits for it; or wherever. -/
theorem wpAnyF_firstT {S' : World → Prop} {i : Nat} {oi : Oper} {v : Value} (hzi : i ∉ z) (hi : ops[i]? = some oi) (hsel : ∀ (j : Nat) (o : Oper) cs b, ops[j]? = some o → o.op ≠ .select cs b)
    (hQ : ∀ c a w, Q (.panic c) (a.put oi.dst v) w → Q (.panic c) a w) (hwt : (∀ l : Array Bool, Closed md ops l → l.getD i true = false → ∀ u, (zl z l = true ∨ S u) → S' u)) :
    ∀ (n : Nat) (l : Array Bool) (a : Act) (w : World),
      (∀ j oj, ops[j]? = some oj → j ≠ i → l.getD j true = false → (∀ e ∈ oj.after, Region.binds md e = true → e.on ≠ i) → oi.apart ops oj = true) →
      Closed md ops l → i ∈ Region.ready md ops l → YieldsIf P ops S' oi v a → (zl z l = true ∨ S w) →
      wpAnyF P md ops Q S z n (l.setIfInBounds i true) (a.put oi.dst v) w → wpAnyF P md ops Q S z (n + 1) l a w := by
  intro n
  induction n with
  | zero =>
    intro l a w _ hcl hr hy hS H
    refine ⟨fun h => (by rw [h] at hr; cases hr), fun j hj => ?_⟩
    by_cases e : j = i
    · subst e; exact hy.wpOp hi (hwt l hcl (mem_ready.1 hr).1 w hS) ⟨hS.imp zl_next id, H⟩
    · have := ready_mono hj e
      rw [H.1] at this
      cases this
  | succ n ih =>
    intro l a w hfree hcl hr hy hS H
    refine ⟨fun h => (by rw [h] at hr; cases hr), fun j hj => ?_⟩
    by_cases e : j = i
    · subst e; exact hy.wpOp hi (hwt l hcl (mem_ready.1 hr).1 w hS) ⟨hS.imp zl_next id, H⟩
    · have h1 := H.2 j (ready_mono hj e)
      obtain ⟨hjun, oj, hoj, hall⟩ := mem_ready.1 hj
      have hnot : ∀ e ∈ oj.after, Region.binds md e = true → e.on ≠ i := fun e he hb heq => by
        have h1 := hall e he hb
        have h0 := (mem_ready.1 hr).1
        rw [heq] at h1
        rcases Nat.lt_or_ge i l.size with h' | h'
        · simp [h'] at h0 h1; rw [h0] at h1; cases h1
        · simp [Array.getElem?_eq_none h'] at h1
      have h2 := wpOp_putIf hoj (hfree j oj hoj e hjun hnot) (fun cs b => hsel i oi cs b hi) (fun cs b => hsel j oj cs b hoj) hQ hy h1
      have hfree' : ∀ k ok, ops[k]? = some ok → k ≠ i → (l.setIfInBounds j true).getD k true = false →
          (∀ e ∈ ok.after, Region.binds md e = true → e.on ≠ i) → oi.apart ops ok = true := fun k ok hk hki hun hno => by
        refine hfree k ok hk hki ?_ hno
        by_cases hjk : j = k
        · subst hjk; exact hjun
        · rw [getD_set_ne true hjk] at hun; exact hun
      have hri := ready_mono hr (Ne.symm e)
      refine wpOp_mono (fun b u g => ?_) h2
      have hu : zl z (l.setIfInBounds j true) = true ∨ S u := by
        rcases g.2.1 with g0 | g0
        · refine .inl ?_
          obtain ⟨y, hy, h⟩ := List.any_eq_true.1 g0
          have hyi : i ≠ y := fun q => hzi (q ▸ hy)
          exact List.any_eq_true.2 ⟨y, hy, by rw [Array.setIfInBounds_comm _ _ (Ne.symm e)] at h; rwa [getD_set_ne false hyi] at h⟩
        · exact .inr g0
      exact ⟨hu, ih (l.setIfInBounds j true) b u hfree' (hcl.next hj) hri g.1 hu (by rw [Array.setIfInBounds_comm _ _ e]; exact g.2.2)⟩
theorem not_in {z : List Nat} {i : Nat} (h : z.contains i = false) : i ∉ z := fun q => by
  rw [List.contains_iff_mem.2 q] at h; cases h
theorem wpAnyF_takeT {i : Nat} {oi : Oper} {v : Value} {n : Nat} {l : Array Bool} {a : Act} {w : World} (hi : ops[i]? = some oi) (hzi : z.contains i = false)
    (hs : Region.noSelect ops = true) (hf : Region.free md ops l i = true) (hr : (Region.ready md ops l).contains i = true) (hwt : reachAll md ops z i = true) (hcl : closedB md ops l = true)
    (hQ : ∀ c a w, Q (.panic c) (a.put oi.dst v) w → Q (.panic c) a w) (hw : Region.wanted oi (yielded ops a.tmps) = true) (hy : ∀ u, S u → (execOp a.eval oi).run P u = .ok (.value v) u) (hS : S w)
    (h : wpAnyF P md ops Q S z n (l.setIfInBounds i true) (a.put oi.dst v) w) : wpAnyF P md ops Q S z (n + 1) l a w :=
  wpAnyF_firstT (S' := S) (not_in hzi) hi (Region.noSelect_spec hs) hQ (fun l hc h0 u h => h.resolve_left (reachAll_not hwt l hc h0)) n l a w (Region.free_spec hi hf) (closed_of hcl) (by simpa using hr) (.inl ⟨hw, hy⟩) (.inr hS) h
/-- An operation that reads no memory. -/
theorem wpAnyF_freeT {i : Nat} {oi : Oper} {v : Value} {n : Nat} {l : Array Bool} {a : Act} {w : World} (hi : ops[i]? = some oi) (hzi : z.contains i = false)
    (hs : Region.noSelect ops = true) (hf : Region.free md ops l i = true) (hr : (Region.ready md ops l).contains i = true) (hcl : closedB md ops l = true)
    (hQ : ∀ c a w, Q (.panic c) (a.put oi.dst v) w → Q (.panic c) a w) (hw : Region.wanted oi (yielded ops a.tmps) = true) (hy : ∀ u, (execOp a.eval oi).run P u = .ok (.value v) u) (hS : S w)
    (h : wpAnyF P md ops Q S z n (l.setIfInBounds i true) (a.put oi.dst v) w) : wpAnyF P md ops Q S z (n + 1) l a w :=
  wpAnyF_firstT (S' := fun _ => True) (not_in hzi) hi (Region.noSelect_spec hs) hQ (fun _ _ _ _ _ => trivial) n l a w (Region.free_spec hi hf) (closed_of hcl) (by simpa using hr) (.inl ⟨hw, fun u _ => hy u⟩) (.inr hS) h
/-- An operation that its guard leaves out, whenever it comes. -/
theorem wpAnyF_leaveT {i : Nat} {oi : Oper} {n : Nat} {l : Array Bool} {a : Act} {w : World} (hi : ops[i]? = some oi) (hzi : z.contains i = false)
    (hs : Region.noSelect ops = true) (hf : Region.free md ops l i = true) (hr : (Region.ready md ops l).contains i = true) (hcl : closedB md ops l = true)
    (hQ : ∀ c a w, Q (.panic c) (a.put oi.dst undef) w → Q (.panic c) a w) (hw : Region.wanted oi (yielded ops a.tmps) = false) (hS : S w)
    (h : wpAnyF P md ops Q S z n (l.setIfInBounds i true) (a.put oi.dst undef) w) : wpAnyF P md ops Q S z (n + 1) l a w :=
  wpAnyF_firstT (S' := fun _ => True) (not_in hzi) hi (Region.noSelect_spec hs) hQ (fun _ _ _ _ _ => trivial) n l a w (Region.free_spec hi hf) (closed_of hcl) (by simpa using hr) (.inr ⟨hw, rfl⟩) (.inr hS) h
theorem wpAnyF_one {i : Nat} {n : Nat} {l : Array Bool} {a : Act} {w : World} (hr : Region.ready md ops l = [i])
    (h : wpOp P ops Q i (fun b u => (zl z (l.setIfInBounds i true) = true ∨ S u) ∧ wpAnyF P md ops Q S z n (l.setIfInBounds i true) b u) a w) : wpAnyF P md ops Q S z (n + 1) l a w :=
  ⟨fun h0 => (by rw [hr] at h0; cases h0), fun j hj => by
    rw [hr] at hj
    have e : j = i := (by simpa using hj)
    subst e
    exact h⟩
theorem wpAnyF_step {i : Nat} {o : Oper} {n : Nat} {l : Array Bool} {a : Act} {w : World} (hr : Region.ready md ops l = [i]) (hi : ops[i]? = some o) (hw : Region.wanted o (yielded ops a.tmps) = true)
    (h : ∀ K : Act → World → Prop, (∀ b u, (zl z (l.setIfInBounds i true) = true ∨ S u) → wpAnyF P md ops Q S z n (l.setIfInBounds i true) b u → K b u) → Oper.wp P o a w K Q) : wpAnyF P md ops Q S z (n + 1) l a w :=
  wpAnyF_one hr (by
    unfold wpOp
    rw [hi]
    simp only [hw, if_true]
    exact .inl (h _ fun b u h1 h2 => ⟨h1, h2⟩))
/-- Two may come up. -/
theorem wpAnyF_two {i j : Nat} {oi oj : Oper} {n : Nat} {l : Array Bool} {a : Act} {w : World} (hr : Region.ready md ops l = [i, j]) (hi : ops[i]? = some oi) (hwi : Region.wanted oi (yielded ops a.tmps) = true) (hj : ops[j]? = some oj) (hwj : Region.wanted oj (yielded ops a.tmps) = true)
    (h1 : ∀ K : Act → World → Prop, (∀ b u, (zl z (l.setIfInBounds i true) = true ∨ S u) → wpAnyF P md ops Q S z n (l.setIfInBounds i true) b u → K b u) → Oper.wp P oi a w K Q)
    (h2 : ∀ K : Act → World → Prop, (∀ b u, (zl z (l.setIfInBounds j true) = true ∨ S u) → wpAnyF P md ops Q S z n (l.setIfInBounds j true) b u → K b u) → Oper.wp P oj a w K Q) : wpAnyF P md ops Q S z (n + 1) l a w :=
  ⟨fun h0 => (by rw [hr] at h0; cases h0), fun k hk => by
    rw [hr] at hk
    rcases List.mem_cons.1 hk with e | hk
    · subst e
      unfold wpOp
      rw [hi]
      simp only [hwi, if_true]
      exact .inl (h1 _ fun b u h1 h2 => ⟨h1, h2⟩)
    · have e : k = j := (by simpa using hk)
      subst e
      unfold wpOp
      rw [hj]
      simp only [hwj, if_true]
      exact .inl (h2 _ fun b u h1 h2 => ⟨h1, h2⟩)⟩
theorem wpAnyF_skip {i : Nat} {o : Oper} {n : Nat} {l : Array Bool} {a : Act} {w : World} (hr : Region.ready md ops l = [i]) (hi : ops[i]? = some o) (hw : Region.wanted o (yielded ops a.tmps) = false) (hS : S w)
    (h : wpAnyF P md ops Q S z n (l.setIfInBounds i true) (a.put o.dst undef) w) : wpAnyF P md ops Q S z (n + 1) l a w :=
  wpAnyF_one hr (by
    unfold wpOp
    rw [hi]
    simp only [hw]
    exact ⟨.inr hS, h⟩)
theorem wpAnyF_done {l : Array Bool} {a : Act} {w : World} (hr : Region.ready md ops l = []) (h : Q .normal a w) : ∀ n, wpAnyF P md ops Q S z n l a w
  | 0 => ⟨hr, h⟩
  | _ + 1 => ⟨fun _ => h, by rw [hr]; simp⟩
theorem wp_region_F (S : World → Prop) (z : List Nat) {id : Nat} {a : Act} {w : World} (hm : P.follows .mixedOrders = true)
    (h : wpAnyF P .any ops Q S z ops.size (Array.replicate ops.size false) a w.drew) : (Code.region id ops true).wp P Q a w :=
  wp_region_any hm (wpAny_of_F _ _ _ _ h)
end
end Go.Proofs.Ytnbcjjgilndlaaa
