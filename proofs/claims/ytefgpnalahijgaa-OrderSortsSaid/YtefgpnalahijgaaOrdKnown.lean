/- Events in order: Clone, the sort of few, Sorted, the chapter's row. Helper. -/
import Derived.Test.YtefgpnalahijgaaOrdIns
import Derived.WalkSpells
import Derived.WalkLawsBesides
namespace Go.Proofs.Ytefgpnalahijgaa
open Go.RowKit
set_option linter.unusedVariables false
set_option linter.unusedSimpArgs false
theorem stable_few (g o n c : Nat) (f : Nat → Ev) (w : World) (h : EvsAt w g o n f) (hn : n < 20) :
    Calls Try.prog 29 #[.slice (some ⟨g, o, none⟩) n c, .int .i64 (n : Int), .func (.func 10) #[] #[]] w fun e w' => e = .returned (.tuple #[]) ∧ ∃ f', Insd w w' g o n 0 n f f' ∧ Rise f' 0 n := by
  have k := Lib.hid (ins_any g o n 0 n c f w h (Nat.zero_le _) (Nat.le_refl _) (by omega))
  go_enter Try.func29, Try.ntmps29
  go_wp2
  go_loopw [7, 8] (fun a b wr => a = .int .i64 0 ∧ b = .int .i64 20 ∧ wr = w) (fun _ _ _ => 0)
  case atStart => exact ⟨rfl, rfl, rfl⟩
  case round =>
    obtain ⟨rfl, rfl, rfl⟩ := hrel
    go_wp2_with fail
    refine k.out.mono ?_
    rintro e w1 ⟨rfl, f', hi, hr⟩
    go_wp2_with fail
    go_loopw [6] (fun b wr => b = .int .i64 20 ∧ wr = w1) (fun _ _ => 0)
    case atStart => exact ⟨rfl, rfl⟩
    case round =>
      obtain ⟨rfl, rfl⟩ := hrel
      go_wp2_with fail
      go_end0
      exact ⟨rfl, f', hi, hr⟩
theorem sortStable_few (g o n c : Nat) (f : Nat → Ev) (w : World) (h : EvsAt w g o n f) (hn : n < 20) :
    Calls Try.prog 25 #[.slice (some ⟨g, o, none⟩) n c, .func (.func 10) #[] #[]] w fun e w' => e = .returned (.tuple #[]) ∧ ∃ f', Insd w w' g o n 0 n f f' ∧ Rise f' 0 n := by
  have k := Lib.hid (stable_few g o n c f w h hn)
  go_enter Try.func25, Try.ntmps25
  go_wp2_with fail
  refine k.out.mono ?_
  rintro e w1 ⟨rfl, f', hi, hr⟩
  go_wp2_with fail
  go_end0
  exact ⟨rfl, f', hi, hr⟩
theorem infoEv : (Try.prog.info? 28).map (fun i => (i.zero, i.size, i.bytes)) = some (some (.agg #[.int .i64 0, .int .i64 0, .int .i64 0, .int .i64 0, .int .i64 0, .int .i64 0]), 6, 48) := by kernel_rfl
theorem Own.void (w : World) (e : TypeId) (size : Nat) (A : Option Addr) : Own w e size (.slice A 0 0) 0 [] none := ⟨by simp, A, 0, rfl, Nat.le_refl _, Nat.zero_le _, .inl ⟨rfl, rfl⟩⟩
set_option maxHeartbeats 800000 in
theorem clone_evs (g o n c : Nat) (f : Nat → Ev) (w : World) (h : EvsAt w g o n f) (h0 : 0 < n) (hn : n ≤ 1000) :
    Calls Try.prog 24 #[.slice (some ⟨g, o, none⟩) n c] w fun e w' => ∃ g' o' c', e = .returned (.slice (some ⟨g', o', none⟩) n c') ∧ EvsAt w' g' o' n f ∧ Below w.heap.size w w' ∧ w.heap.size ≤ g' := by
  obtain ⟨i0, hi0, hz0, hz1, hz2⟩ := info_parts infoEv
  have HL1 := Lib.hid hi0
  have HL2 := Lib.hid hz0
  have HL3 := Lib.hid hz1
  have HL4 := Lib.hid hz2
  clear hi0 hz0 hz1 hz2
  have hn' := fun w => Lib.run_eql_slice_nil (P := Try.prog) w 33 28 (some ⟨g, o, none⟩) n c 0 0 Try.underlying33
  have hrd : ∀ o', Rd (w.alloc o') (some ⟨g, o, none⟩) (flat f n) := fun o' => (h.new ((Below.refl w.heap.size w).alloc (Nat.le_refl _) _)).rd
  have HR := Lib.hid hrd
  clear hrd h
  go_enter Try.func24, Try.ntmps24
  go_wp2_with (at_builtin; refine wpList_append_at _ rfl _ _ _ rfl 28 i0 _ 6 48 Try.underlying33 HL1.out HL2.out HL3.out HL4.out rfl (by omega) _ 0 [] none rfl (Own.void _ _ _ _) _ n c (flat f n) rfl (flat_length f n) (HR.out _) (flat_one f n) (by simp only [maxLen]; omega) (by omega) ?_; intro A' c' w1 blk hown hchg hat; simp only [Nat.zero_add, List.nil_append] at hown)
  obtain ⟨g', o', cc, hv, rfl, he, _, _⟩ := hown.evs h0
  injection hv with hv _ hv2
  subst hv hv2
  go_ret
  refine ⟨g', o', c', rfl, he, ((Below.refl w.heap.size w).alloc (Nat.le_refl _) _).trans (hchg.below (fun i _ h => by cases h) (by simp)), ?_⟩
  rcases hat with h | h
  · cases h
  · injection h with h; simp at h; omega
theorem sorted_few (g o n c : Nat) (f : Nat → Ev) (w : World) (h : EvsAt w g o n f) (h0 : 0 < n) (hn : n < 20) :
    Calls Try.prog 15 #[.slice (some ⟨g, o, none⟩) n c] w fun e w' => ∃ g' o' c' f', e = .returned (.slice (some ⟨g', o', none⟩) n c') ∧ EvsAt w' g' o' n f' ∧ Kept n f f' ∧ Rise f' 0 n ∧ Below w.heap.size w w' := by
  have k := Lib.hid (clone_evs g o n c f w h h0 (by omega))
  go_enter Try.func15, Try.ntmps15
  go_wp2_with fail
  refine k.out.mono ?_
  rintro e w1 ⟨g', o', c', rfl, h1, b1, hg⟩
  have k2 := Lib.hid (sortStable_few g' o' n c' f w1 h1 hn)
  go_wp2_with fail
  refine k2.out.mono ?_
  rintro e w2 ⟨rfl, f', hi, hr⟩
  go_wp2_with fail
  go_ret
  exact ⟨g', o', c', f', rfl, hi.1, hi.2.1, hr, b1.trans (hi.2.2.2.below (fun i _ h => by omega) b1.size)⟩
def known0 : Nat → Ev := fun i => if i = 0 then ⟨⟨5, 2, 0⟩, 0, 0, 0⟩ else if i = 1 then ⟨⟨5, 1, 9⟩, 0, 0, 0⟩ else ⟨⟨4, 3, 3⟩, 0, 0, 0⟩
def known1 : Nat → Ev := fun i => if i = 0 then ⟨⟨4, 3, 3⟩, 0, 0, 0⟩ else if i = 1 then ⟨⟨5, 1, 9⟩, 0, 0, 0⟩ else ⟨⟨5, 2, 0⟩, 0, 0, 0⟩
theorem known_kept : Kept 3 known0 known1 := by
  intro k
  have e0 : seg known0 3 = [⟨⟨5, 2, 0⟩, 0, 0, 0⟩, ⟨⟨5, 1, 9⟩, 0, 0, 0⟩, ⟨⟨4, 3, 3⟩, 0, 0, 0⟩] := by decide
  have e1 : seg known1 3 = [⟨⟨4, 3, 3⟩, 0, 0, 0⟩, ⟨⟨5, 1, 9⟩, 0, 0, 0⟩, ⟨⟨5, 2, 0⟩, 0, 0, 0⟩] := by decide
  rw [e0, e1]
  simp only [List.filter_cons, List.filter_nil]
  by_cases h1 : (⟨5, 2, 0⟩ : Ky) = k
  · subst h1; decide
  · by_cases h2 : (⟨5, 1, 9⟩ : Ky) = k
    · subst h2; decide
    · by_cases h3 : (⟨4, 3, 3⟩ : Ky) = k
      · subst h3; decide
      · simp [h1, h2, h3]
theorem known_rise : Rise known1 0 3 := by
  intro p q _ h2 h3
  have : (p = 0 ∧ q = 1) ∨ (p = 0 ∧ q = 2) ∨ (p = 1 ∧ q = 2) := by omega
  rcases this with ⟨rfl, rfl⟩ | ⟨rfl, rfl⟩ | ⟨rfl, rfl⟩ <;> decide
theorem known_at (w : World) (T : TypeId) : EvsAt (w.alloc (.cells #[.int .i64 5, .int .i64 2, .int .i64 0, .int .i64 0, .int .i64 0, .int .i64 0, .int .i64 5, .int .i64 1, .int .i64 9, .int .i64 0, .int .i64 0, .int .i64 0, .int .i64 4, .int .i64 3, .int .i64 3, .int .i64 0, .int .i64 0, .int .i64 0] T)) w.heap.size 0 3 known0 := by
  have hb := Blk.last w T #[.int .i64 5, .int .i64 2, .int .i64 0, .int .i64 0, .int .i64 0, .int .i64 0, .int .i64 5, .int .i64 1, .int .i64 9, .int .i64 0, .int .i64 0, .int .i64 0, .int .i64 4, .int .i64 3, .int .i64 3, .int .i64 0, .int .i64 0, .int .i64 0] rfl
  refine ⟨fun i hi j hj => ?_, fun i hi j hj => hb.frozen _⟩
  rw [hb.cell]
  have hi' : i = 0 ∨ i = 1 ∨ i = 2 := by omega
  have hj' : j = 0 ∨ j = 1 ∨ j = 2 ∨ j = 3 ∨ j = 4 ∨ j = 5 := by omega
  rcases hi' with rfl | rfl | rfl <;> rcases hj' with rfl | rfl | rfl | rfl | rfl | rfl <;> rfl
theorem known_any (w : World) : Calls Try.prog 11 #[] w fun e w' => e = .returned (.bool true) ∧ Below w.heap.size w w' := by
  have k := Lib.hid (sorted_few w.heap.size 0 3 3 known0 _ (known_at w 28) (by decide) (by decide))
  go_enter Try.func11, Try.ntmps11
  go_wp2_with fail
  refine k.out.mono ?_
  rintro e w1 ⟨g', o', c', f', rfl, h1, hk, hr, b1⟩
  have hf := hk.one hr known_kept known_rise
  obtain ⟨c0, _⟩ := h1.cells (i := 0) (by decide)
  obtain ⟨_, c1, _⟩ := h1.cells (i := 1) (by decide)
  rw [hf 0 (by decide)] at c0
  rw [hf 1 (by decide)] at c1
  simp [known1] at c0 c1
  have bb : Below w.heap.size w w1 := ((Below.refl w.heap.size w).alloc (Nat.le_refl _) _).trans (b1.mono (by simp))
  clear b1 h1 hk hr hf k
  go_wp2_with fail
  go_ret
  exact ⟨rfl, bb⟩
end Go.Proofs.Ytefgpnalahijgaa
