/- Which programs may be: code.May whole. Helper. -/
import Derived.Test.YtgijkgngldfdiaaVmMayP
namespace Go.Proofs.Ytgijkgngldfdiaa
open Go.RowKit
set_option linter.unusedVariables false
set_option linter.unusedSimpArgs false
def badI (vars : Int) (kn ln : Nat) (x : Int × Int) : Bool := !insB vars kn ln x.1 x.2
def IdxOut (B : Bool) (w : World) (e : Ending) (w' : World) : Prop := ∃ r : Int, e = .returned (.int .i64 r) ∧ decide (0 ≤ r) = B ∧ Below w.heap.size w w'
theorem any_none {α : Type} {p : α → Bool} {l : List α} (h : ∀ j (hj : j < l.length), p l[j] = false) : l.any p = false := by
  rw [List.any_eq_false]
  intro x hx
  obtain ⟨j, hj, rfl⟩ := List.getElem_of_mem hx
  simp [h j hj]
theorem any_some {α : Type} {p : α → Bool} {l : List α} {j : Nat} (hj : j < l.length) (h : p l[j] = true) : l.any p = true :=
  List.any_eq_true.2 ⟨_, List.getElem_mem hj, h⟩
section
variable (vars : Int) (kA : Option Addr) (kn kc : Nat) (w : World)
set_option maxRecDepth 100000
set_option maxHeartbeats 800000
theorem index_any (PB KB : Nat) (lA : Option Addr) (l : List (Int × Int)) (lc : Nat) (hl : l.length ≤ 4294967295) (hr : RawAt w lA l) (p0 : w.cell? ⟨PB, 0, none⟩ = some (.int .i64 vars)) (p1 : w.cell? ⟨PB, 1, none⟩ = some (.slice kA kn kc)) (k0 : w.cell? ⟨KB, 0, none⟩ = some (.slice lA l.length lc)) :
    Calls Try.prog 102 #[.slice lA l.length lc, .func (.func 70) #[] #[.pointer (some ⟨PB, 0, none⟩), .pointer (some ⟨KB, 0, none⟩)]] w (IdxOut (l.any (badI vars kn l.length)) w) := by
  have HR := Lib.hid hr
  have KB1 := Lib.hid (fun W (g : Nw w W) op n => bad_any vars kA kn kc W PB KB lA l.length lc op n hl (g.cell p0) (g.cell p1) (g.cell k0))
  clear hr p0 p1 k0
  obtain ⟨B, hB⟩ : ∃ B, l.any (badI vars kn l.length) = B := ⟨_, rfl⟩
  have HB := Lib.hid hB
  rw [hB]
  clear hB
  go_enter Try.func102, Try.ntmps102
  go_wp2_with fail
  go_loopw [8] (fun i wr => ∃ k : Nat, k ≤ l.length ∧ i = .int .i64 k ∧ Hid (Nw w wr ∧ ∀ j (hj : j < l.length), j < k → badI vars kn l.length l[j] = false)) (fun i _ => l.length - (intOf i).toNat)
  case atStart => exact ⟨0, Nat.zero_le _, rfl, Lib.hid ⟨Nw.refl w, fun j hj h => by omega⟩⟩
  case round =>
    obtain ⟨k, hk, rfl, HI⟩ := hrel
    by_cases hlt : k < l.length
    · obtain ⟨b, o, rfl, c0, c1⟩ := HR.out.get hlt
      have c0 := HI.out.1.cell c0
      have c1 := HI.out.1.cell c1
      have kb := KB1.out wr HI.out.1 (l[k]).1 (l[k]).2
      have g1 : (k : Int) < (l.length : Int) := by omega
      obtain ⟨bd, hbd⟩ : ∃ bd, badI vars kn l.length l[k] = bd := ⟨_, rfl⟩
      have hbd2 : (!insB vars kn l.length (l[k]).1 (l[k]).2) = bd := hbd
      rw [hbd2] at kb
      have HBD := Lib.hid hbd
      have KBB := Lib.hid kb
      obtain ⟨x, hx⟩ : ∃ x, (l[k]).1 = x := ⟨_, rfl⟩
      obtain ⟨y, hy⟩ : ∃ y, (l[k]).2 = y := ⟨_, rfl⟩
      rw [hx] at c0 KBB
      rw [hy] at c1 KBB
      clear hbd hbd2 kb hx hy
      cases bd with
      | false =>
        go_wp2_with fail
        refine KBB.out.mono ?_
        rintro e w1 ⟨rfl, b1⟩
        have B1 := Lib.hid b1
        clear b1 c0 c1
        go_wp2_with fail
        go_roundw
        case rel => exact ⟨k + 1, by omega, by go_num, Lib.hid ⟨HI.out.1.step B1.out, fun j hj h => by
          by_cases e : j = k
          · subst e; exact HBD.out
          · exact HI.out.2 j hj (by omega)⟩⟩
        case measure => simp [intOf]; omega
      | true =>
        go_wp2_with fail
        refine KBB.out.mono ?_
        rintro e w1 ⟨rfl, b1⟩
        have B1 := Lib.hid b1
        clear b1 c0 c1
        go_wp2_with fail
        go_ret
        exact ⟨_, rfl, by rw [← HB.out, any_some hlt HBD.out]; simp, HI.out.1.step B1.out⟩
    · go_wp2_with fail
      go_ret
      exact ⟨_, rfl, by rw [← HB.out, any_none (fun j hj => HI.out.2 j hj (by omega))]; simp, HI.out.1⟩
theorem contains_any (PB KB : Nat) (lA : Option Addr) (l : List (Int × Int)) (lc : Nat) (hl : l.length ≤ 4294967295) (hr : RawAt w lA l) (p0 : w.cell? ⟨PB, 0, none⟩ = some (.int .i64 vars)) (p1 : w.cell? ⟨PB, 1, none⟩ = some (.slice kA kn kc)) (k0 : w.cell? ⟨KB, 0, none⟩ = some (.slice lA l.length lc)) :
    Calls Try.prog 73 #[.slice lA l.length lc, .func (.func 70) #[] #[.pointer (some ⟨PB, 0, none⟩), .pointer (some ⟨KB, 0, none⟩)]] w fun e w' => e = .returned (.bool (l.any (badI vars kn l.length))) ∧ Below w.heap.size w w' := by
  have K := Lib.hid (index_any vars kA kn kc w PB KB lA l lc hl hr p0 p1 k0)
  clear hr p0 p1 k0
  generalize l.any (badI vars kn l.length) = B at *
  go_enter Try.func73, Try.ntmps73
  go_wp2_with fail
  refine K.out.mono ?_
  rintro e w1 ⟨r, rfl, hr, b1⟩
  have HR := Lib.hid hr
  have B1 := Lib.hid b1
  clear hr b1
  go_wp2_with fail
  go_ret
  exact ⟨ret_bool HR.out, B1.out⟩
end
end Go.Proofs.Ytgijkgngldfdiaa
