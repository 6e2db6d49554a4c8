/- Rounds: New. Helper. -/
import Derived.Test.YtbgpbbepeemieaaRndLess
import Derived.Laws.MakeOwn
namespace Go.Proofs.Ytbgpbbepeemieaa
open Go.RowKit
set_option linter.unusedVariables false
set_option linter.unusedSimpArgs false
def Rn.new (n : Nat) : Rn := ⟨n, 0, 0, fun _ => 0, [], fun _ => ⟨0, 0, 0⟩, ⟨0, 0, 0⟩, ⟨0, 0, 0⟩, false⟩
theorem infoInt : (Try.prog.info? 3).map (fun i => (i.zero, i.size, i.bytes)) = some (some (.int .i64 0), 1, 8) := by kernel_rfl
theorem infoKey : (Try.prog.info? 27).map (fun i => (i.zero, i.size, i.bytes)) = some (some (.agg #[.int .i64 0, .int .i64 0, .int .i64 0]), 3, 24) := by kernel_rfl
theorem made_get (z : Array Value) (n i m : Nat) (hm : i % z.size = m) (hi : i < n) : (madeCells z n)[i]? = some (z[m]!) := by
  subst hm
  simp [madeCells, hi]
theorem make_ints (n : Nat) (h : n ≤ 16) : ∃ A : Array Value, (∀ i, i ≤ n → A[i]? = some (.int .i64 0)) ∧
    ∀ W : World, (Instr.makeSlice 22 (.int .i64 ((n : Int) + 1)) (.int .i64 ((n : Int) + 1))).run Try.prog W = .ok (.slice (some ⟨W.heap.size, 0, none⟩) (n + 1) (n + 1)) (W.alloc (.cells A 3)) := by
  obtain ⟨i0, hi0, hz0, hz1, hz2⟩ := info_parts infoInt
  refine ⟨madeCells #[.int .i64 0] (n + 1), fun i hi => ?_, fun W => ?_⟩
  · rw [made_get _ _ _ 0 (by show i % 1 = 0; omega) (by omega)]; rfl
  · have := run_make (P := Try.prog) W 22 3 i0 _ Try.underlying22 hi0 hz0 .i64 .i64 ((n : Int) + 1) ((n : Int) + 1) (by omega) (by omega) (by rw [hz2]; omega) (by omega)
    rw [this, hz1, show ((n : Int) + 1).toNat = n + 1 by omega, Nat.mul_one]
    rfl
theorem make_keys (n : Nat) (h : n ≤ 16) : ∃ A : Array Value, (∀ i, i ≤ n → A[i * 3]? = some (.int .i64 0) ∧ A[i * 3 + 1]? = some (.int .i64 0) ∧ A[i * 3 + 2]? = some (.int .i64 0)) ∧
    ∀ W : World, (Instr.makeSlice 23 (.int .i64 ((n : Int) + 1)) (.int .i64 ((n : Int) + 1))).run Try.prog W = .ok (.slice (some ⟨W.heap.size, 0, none⟩) (n + 1) (n + 1)) (W.alloc (.cells A 27)) := by
  obtain ⟨i0, hi0, hz0, hz1, hz2⟩ := info_parts infoKey
  refine ⟨madeCells #[.int .i64 0, .int .i64 0, .int .i64 0] ((n + 1) * 3), fun i hi => ⟨?_, ?_, ?_⟩, fun W => ?_⟩
  · rw [made_get _ _ _ 0 (by show i * 3 % 3 = 0; omega) (by omega)]; rfl
  · rw [made_get _ _ _ 1 (by show (i * 3 + 1) % 3 = 1; omega) (by omega)]; rfl
  · rw [made_get _ _ _ 2 (by show (i * 3 + 2) % 3 = 2; omega) (by omega)]; rfl
  · have := run_make (P := Try.prog) W 23 27 i0 _ Try.underlying23 hi0 hz0 .i64 .i64 ((n : Int) + 1) ((n : Int) + 1) (by omega) (by omega) (by rw [hz2]; omega) (by omega)
    rw [this, hz1, show ((n : Int) + 1).toNat = n + 1 by omega]
    rfl
theorem Sn.alloc {w : World} {S : Nat} {l : List Nat} (h : Sn w S l) (o : Obj) : Sn (w.alloc o) S l := h.same (Below.heap_alloc w o S h.1.lt)
theorem Sn.drew {w : World} {S : Nat} {l : List Nat} (h : Sn w S l) : Sn w.drew S l := h
theorem Sn.last (w : World) {n : Nat} (h : w.heap.size = n) : Sn (w.alloc (.map #[] 0)) n [] := by subst h; exact Sn.made w
theorem RM.made {w : World} {n : Nat} {A B : Array Value} (hA : ∀ i, i ≤ n → A[i]? = some (.int .i64 0)) (hB : ∀ i, i ≤ n → B[i * 3]? = some (.int .i64 0) ∧ B[i * 3 + 1]? = some (.int .i64 0) ∧ B[i * 3 + 2]? = some (.int .i64 0))
    {R C S L : Nat} (h : Blk w R 49 #[.int .i64 0, .int .i64 0, .slice (some ⟨C, 0, none⟩) (n + 1) (n + 1), .map (some S), .slice (some ⟨L, 0, none⟩) (n + 1) (n + 1), .int .i64 0, .int .i64 0, .int .i64 0, .int .i64 0, .int .i64 0, .int .i64 0, .bool false])
    (hc : Blk w C 3 A) (hl : Blk w L 27 B) (hs : Sn w S []) (h1 : 1 ≤ n) (h2 : n ≤ 16) : RM w R C S L (Rn.new n) :=
  ⟨h, ⟨A, hc, hA⟩, ⟨B, hl, hB⟩, hs, h1, h2, Nat.zero_le _, Nat.zero_le _, Nat.zero_le _⟩
set_option maxHeartbeats 1600000 in
theorem new_any (n : Nat) (w : World) (h1 : 1 ≤ n) (h2 : n ≤ 16) :
    Calls Try.prog 6 #[.int .i64 (n : Int)] w fun e w' => ∃ R C S L, e = .returned (.tuple #[.pointer (some ⟨R, 0, none⟩), .int .i64 0]) ∧ RM w' R C S L (Rn.new n) ∧ Below w.heap.size w w' ∧ ∀ k, Four R C S L k → w.heap.size ≤ k := by
  have g1 : ¬ (n : Int) < 1 := by omega
  have g2 : ¬ (16 : Int) < (n : Int) := by omega
  have w1 : IntKind.i64.wrap ((n : Int) + 1) = (n : Int) + 1 := IntWalk.i64_in (n := (n : Int) + 1) (by constructor <;> omega)
  obtain ⟨A, hA, ka⟩ := make_ints n h2
  obtain ⟨B, hB, kb⟩ := make_keys n h2
  have km : ∀ W : World, (Instr.makeMap 47 none).run Try.prog W = .ok (.map (some W.heap.size)) (W.alloc (.map #[] 0)) := fun W => run_makeMap _ W
  have HA := Lib.hid hA
  have HB := Lib.hid hB
  clear hA hB
  go_enter Try.func6, Try.ntmps6
  go_wp2_with fail
  go_region
  all_goals
    go_wp2_with fail
    go_ret2
    refine ⟨_, _, _, _, rfl, RM.made HA.out HB.out (Blk.drew (Blk.last _ _ _ (by simp))) ?_ ?_ ?_ h1 h2, (((((Nw.refl w).alloc _).alloc _).alloc _).alloc _).drew, ?_⟩
    · first
        | exact ((Blk.last _ _ _ (by simp)).alloc _).drew
        | exact (((Blk.last _ _ _ (by simp)).alloc _).alloc _).drew
        | exact ((((Blk.last _ _ _ (by simp)).alloc _).alloc _).alloc _).drew
    · first
        | exact ((Blk.last _ _ _ (by simp)).alloc _).drew
        | exact (((Blk.last _ _ _ (by simp)).alloc _).alloc _).drew
        | exact ((((Blk.last _ _ _ (by simp)).alloc _).alloc _).alloc _).drew
    · first
        | exact ((Sn.last _ (by simp)).alloc _).drew
        | exact (((Sn.last _ (by simp)).alloc _).alloc _).drew
        | exact ((((Sn.last _ (by simp)).alloc _).alloc _).alloc _).drew
    · rintro k (rfl | rfl | rfl | rfl) <;> omega
end Go.Proofs.Ytbgpbbepeemieaa
