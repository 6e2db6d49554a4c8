/- A heap whole; New, Len, Has. Helper. -/
import Derived.Test.YtghmldfllieonaaHeapDown
namespace Go.Proofs.Ytghmldfllieonaa
open Go.RowKit
set_option linter.unusedVariables false
set_option linter.unusedSimpArgs false
/-- A heap in memory, whole. -/
structure HpS (w : World) (gB S : Nat) (v : Value) (l : List It) (f : Int → Int → Option Nat) (blk : Option Nat) : Prop where
  hm : HM w gB S v l f l.length blk
  nm : NameOk l f
  wf : ∀ e ∈ l, WOk e
  hp : HeapL l
theorem HpS.new {w w' : World} {gB S : Nat} {v : Value} {l : List It} {f : Int → Int → Option Nat} {blk : Option Nat} (h : HpS w gB S v l f blk) (hB : Below w.heap.size w w') : HpS w' gB S v l f blk := ⟨h.hm.new hB, h.nm, h.wf, h.hp⟩
theorem HpS.chg {w w' : World} {gB S : Nat} {v : Value} {l : List It} {f : Int → Int → Option Nat} {blk : Option Nat} (h : HpS w gB S v l f blk) {M : Nat → Prop} (hC : Chg M w w') (hM : ∀ k, HTurn gB S blk k → ¬ M k) : HpS w' gB S v l f blk :=
  ⟨⟨h.hm.bk.chg hC (hM _ (.inl rfl)), h.hm.ow.chg hC (fun g hg => hM _ (.inr (.inr hg.symm))), h.hm.mp.same (hC.block S h.hm.mp.lt (hM _ (.inr (.inl rfl))))⟩, h.nm, h.wf, h.hp⟩
theorem HpS.kp {w : World} {gB S : Nat} {v : Value} {l : List It} {f : Int → Int → Option Nat} {blk : Option Nat} (h : HpS w gB S v l f blk) : Kp w w gB S v l.length blk l l f := ⟨h.hm, h.nm, h.wf, List.Perm.refl _, Chg.refl _ _⟩
/-- What an act leaves: l' for l. -/
def HpOut (w w' : World) (gB S : Nat) (blk : Option Nat) (l' : List It) : Prop := ∃ v' f' blk', HpS w' gB S v' l' f' blk' ∧ Chg (HTurn gB S blk) w w' ∧ (blk' = blk ∨ ∃ b, blk' = some b ∧ w.heap.size ≤ b)
set_option maxRecDepth 100000
set_option maxHeartbeats 1600000
theorem new_any (w : World) : Calls Try.prog 8 #[] w fun e w' => ∃ gB S v f, e = .returned (.pointer (some ⟨gB, 0, none⟩)) ∧ w.heap.size ≤ gB ∧ w.heap.size ≤ S ∧ Below w.heap.size w w' ∧ HpS w' gB S v [] f none := by
  have km : ∀ W : World, (Instr.makeMap 55 none).run Try.prog W = .ok (.map (some W.heap.size)) (W.alloc (.map #[] 0)) := fun W => run_makeMap _ W
  go_enter Try.func8, Try.ntmps8
  go_wp2_with fail
  go_ret
  refine ⟨w.heap.size + 1, w.heap.size, .slice none 0 0, fun _ _ => none, rfl, by omega, by omega, ((Below.refl _ w).alloc (Nat.le_refl _) _).alloc (by simp) _, ⟨Blk.last _ _ _ (by simp), Own.nil _ _ _, ?_⟩, NameOk.nil, fun e he => by simp at he, fun i h1 h2 => by simp at h2⟩
  exact (MapIs.made w).same (Below.heap_alloc _ _ _ (by simp))
section
variable (w : World) (gB S : Nat) (v : Value) (l : List It) (f : Int → Int → Option Nat) (blk : Option Nat)
theorem len_any (h : HpS w gB S v l f blk) : Calls Try.prog 18 #[.pointer (some ⟨gB, 0, none⟩)] w fun e w' => e = .returned (.int .i64 (l.length : Int)) ∧ w' = w := by
  obtain ⟨A, c, rfl, _, hc, hm⟩ := h.hm.ow.rd
  have c0 : w.cell? ⟨gB, 0, none⟩ = some (.slice A l.length c) := (h.hm.bk.cell 0).trans rfl
  clear h
  go_enter Try.func18, Try.ntmps18
  go_wp2
  go_ret
  exact ⟨rfl, rfl⟩
theorem has_any (h : HpS w gB S v l f blk) (O N : Int) (hO : W64 O) (hN : W64 N) : Calls Try.prog 25 #[.pointer (some ⟨gB, 0, none⟩), .int .i64 O, .int .i64 N] w fun e w' => e = .returned (.bool (f O N).isSome) ∧ w' = w := by
  obtain ⟨x, hx⟩ := h.hm.mp.has hO hN
  obtain ⟨R, hR⟩ : ∃ R, (f O N).isSome = R := ⟨_, rfl⟩
  rw [hR] at hx ⊢
  have c0 : w.cell? ⟨gB, 1, none⟩ = some (.map (some S)) := (h.hm.bk.cell 1).trans rfl
  clear h hR
  go_enter Try.func25, Try.ntmps25
  go_wp2
  go_ret
  exact ⟨rfl, rfl⟩
end
end Go.Proofs.Ytghmldfllieonaa
