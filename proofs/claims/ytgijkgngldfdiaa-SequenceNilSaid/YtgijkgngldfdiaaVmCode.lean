/- Which programs may be: code.Word, code.number, the closure of code.May. Helper. -/
import Derived.Test.YtgijkgngldfdiaaVmDeeds
import Derived.Deep.RegionHeld3
namespace Go.Proofs.Ytgijkgngldfdiaa
open Go.RowKit
set_option linter.unusedVariables false
set_option linter.unusedSimpArgs false
/-- Instructions in memory, of any numbers. -/
def RawAt (w : World) (A : Option Addr) (l : List (Int × Int)) : Prop :=
  l = [] ∨ ∃ b o, A = some ⟨b, o, none⟩ ∧ ∀ j (h : j < l.length), w.cell? ⟨b, o + j * 2, none⟩ = some (.int .i64 (l[j]).1) ∧ w.cell? ⟨b, o + j * 2 + 1, none⟩ = some (.int .i64 (l[j]).2)
theorem RawAt.keep {w w' : World} {A : Option Addr} {l : List (Int × Int)} (h : RawAt w A l) (hN : Nw w w') : RawAt w' A l := by
  rcases h with rfl | ⟨b, o, rfl, h⟩
  · exact .inl rfl
  · exact .inr ⟨b, o, rfl, fun j hj => ⟨hN.cell (h j hj).1, hN.cell (h j hj).2⟩⟩
theorem RawAt.get {w : World} {A : Option Addr} {l : List (Int × Int)} (h : RawAt w A l) {j : Nat} (hj : j < l.length) :
    ∃ b o, A = some ⟨b, o, none⟩ ∧ w.cell? ⟨b, o + j * 2, none⟩ = some (.int .i64 (l[j]).1) ∧ w.cell? ⟨b, o + j * 2 + 1, none⟩ = some (.int .i64 (l[j]).2) := by
  rcases h with rfl | ⟨b, o, rfl, h⟩
  · simp at hj
  · exact ⟨b, o, rfl, h j hj⟩
/-- A program's kinds in memory, of any numbers. -/
def RKinds (w : World) (A : Option Addr) (ks : List (List (Int × Int))) : Prop :=
  ks = [] ∨ ∃ b o, A = some ⟨b, o, none⟩ ∧ ∀ i (h : i < ks.length), ∃ lA lc, w.cell? ⟨b, o + i, none⟩ = some (.slice lA ks[i].length lc) ∧ RawAt w lA ks[i] ∧ ks[i].length ≤ maxLen
theorem RKinds.keep {w w' : World} {A : Option Addr} {ks : List (List (Int × Int))} (h : RKinds w A ks) (hN : Nw w w') : RKinds w' A ks := by
  rcases h with rfl | ⟨b, o, rfl, h⟩
  · exact .inl rfl
  · refine .inr ⟨b, o, rfl, fun i hi => ?_⟩
    obtain ⟨lA, lc, h1, h2, h3⟩ := h i hi
    exact ⟨lA, lc, hN.cell h1, h2.keep hN, h3⟩
theorem RKinds.get {w : World} {A : Option Addr} {ks : List (List (Int × Int))} (h : RKinds w A ks) {i : Nat} (hi : i < ks.length) :
    ∃ b o lA lc, A = some ⟨b, o, none⟩ ∧ w.cell? ⟨b, o + i, none⟩ = some (.slice lA ks[i].length lc) ∧ RawAt w lA ks[i] ∧ ks[i].length ≤ maxLen := by
  rcases h with rfl | ⟨b, o, rfl, h⟩
  · simp at hi
  · obtain ⟨lA, lc, h1, h2, h3⟩ := h i hi
    exact ⟨b, o, lA, lc, rfl, h1, h2, h3⟩
/-- The operations' words. -/
def WL : List ByteArray := [⟨#[]⟩, ⟨#[112, 117, 115, 104]⟩, ⟨#[108, 111, 97, 100]⟩, ⟨#[115, 116, 111, 114, 101]⟩, ⟨#[116, 105, 109, 101]⟩, ⟨#[100, 97, 116, 97]⟩, ⟨#[115, 101, 108, 102]⟩, ⟨#[114, 97, 110, 100]⟩, ⟨#[97, 100, 100]⟩, ⟨#[115, 117, 98]⟩, ⟨#[109, 117, 108]⟩, ⟨#[108, 101, 115, 115]⟩, ⟨#[115, 97, 109, 101]⟩, ⟨#[106, 117, 109, 112]⟩, ⟨#[122, 101, 114, 111]⟩, ⟨#[115, 101, 110, 100]⟩, ⟨#[116, 101, 108, 108]⟩, ⟨#[101, 110, 100]⟩]
def WORDS : Array Value := (WL.map Value.string).toArray
def wordB (o : Int) : ByteArray := if 1 ≤ o ∧ o ≤ 17 then WL.getD o.toNat ⟨#[]⟩ else ⟨#[]⟩
theorem op_cases {o : Int} (h1 : 1 ≤ o) (h2 : o ≤ 17) : o = 1 ∨ o = 2 ∨ o = 3 ∨ o = 4 ∨ o = 5 ∨ o = 6 ∨ o = 7 ∨ o = 8 ∨ o = 9 ∨ o = 10 ∨ o = 11 ∨ o = 12 ∨ o = 13 ∨ o = 14 ∨ o = 15 ∨ o = 16 ∨ o = 17 := by omega
theorem word_at {o : Int} (h1 : 1 ≤ o) (h2 : o ≤ 17) (w : World) : (Instr.index 153 (.agg WORDS) (.int .i64 o)).run Try.prog w = .ok (.string (wordB o)) w := by
  rcases op_cases h1 h2 with rfl | rfl | rfl | rfl | rfl | rfl | rfl | rfl | rfl | rfl | rfl | rfl | rfl | rfl | rfl | rfl | rfl <;> kernel_rfl
theorem word_some {o : Int} (h1 : 1 ≤ o) (h2 : o ≤ 17) : (wordB o).data.toList.isEmpty = false := by
  rcases op_cases h1 h2 with rfl | rfl | rfl | rfl | rfl | rfl | rfl | rfl | rfl | rfl | rfl | rfl | rfl | rfl | rfl | rfl | rfl <;> rfl
theorem WORDS_one : WORDS.all (·.oneCell') = true := by simp [WORDS, WL, Value.oneCell']
theorem WORDS_size : (Try.prog.info? 153).map (·.size) = some WORDS.size := by kernel_rfl
set_option maxRecDepth 100000 in
set_option maxHeartbeats 800000 in
theorem words_any (w : World) : Calls Try.prog 101 #[] w fun e w' => e = .returned (.agg WORDS) ∧ Below w.heap.size w w' := by
  have HU := Lib.hid Try.underlying153
  have HS := Lib.hid WORDS_size
  have hb : (w.alloc (.cells WORDS 153)).heap[w.heap.size]? = some (.cells WORDS 153 (0, 0)) := heap_last w _ rfl
  have HB := Lib.hid hb
  clear hb
  go_enter Try.func101, Try.ntmps101
  go_wp2_with (refine wpList_store_row rfl 153 _ _ rfl w.heap.size WORDS rfl rfl 153 (Array.replicate 18 (.string ⟨#[]⟩)) (heap_last w _ rfl) HS.out (by rfl) WORDS_one ?_; rw [World.setRow_alloc_new])
  refine bodyPost_ret (results_cell_row rfl _ _ w.heap.size 153 WORDS (0, 0) (.array 18 9) rfl HB.out HU.out rfl HS.out) rfl ⟨rfl, (Below.refl _ _).alloc (Nat.le_refl _) _⟩
attribute [irreducible] WORDS
set_option maxRecDepth 100000 in
theorem word_any (o : Int) (w : World) : Calls Try.prog 71 #[.int .i64 o] w fun e w' => e = .returned (.string (wordB o)) ∧ Below w.heap.size w w' := by
  by_cases h1 : o < 1
  · have e : wordB o = ⟨#[]⟩ := by unfold wordB; rw [if_neg (by omega)]
    rw [e]; clear e
    go_enter Try.func71, Try.ntmps71
    go_wp2_with fail
    go_ret
    exact ⟨rfl, Below.refl _ _⟩
  · by_cases h2 : 17 < o
    · have e : wordB o = ⟨#[]⟩ := by unfold wordB; rw [if_neg (by omega)]
      rw [e]; clear e
      go_enter Try.func71, Try.ntmps71
      go_wp2_with fail
      go_ret
      exact ⟨rfl, Below.refl _ _⟩
    · have HW := Lib.hid (fun w => word_at (o := o) (by omega) (by omega) w)
      generalize wordB o = W at *
      go_enter Try.func71, Try.ntmps71
      go_wp2_with fail
      refine (words_any _).mono ?_
      rintro e w1 ⟨rfl, b1⟩
      have B1 := Lib.hid b1
      clear b1
      have hw := HW.out w1
      go_wp2_with fail
      go_ret
      exact ⟨rfl, B1.out⟩
end Go.Proofs.Ytgijkgngldfdiaa
