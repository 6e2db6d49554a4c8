/- A machine's run, of any program that may be. Helper. -/
import Derived.Test.YtgijkgngldfdiaaVmRunNo
import Derived.Test.YtgijkgngldfdiaaVmRefIs
namespace Go.Proofs.Ytgijkgngldfdiaa
open Go.RowKit
set_option linter.unusedVariables false
set_option linter.unusedSimpArgs false
/-- The same instructions, their operations whole numbers from 0 on. -/
def nk (ks : List (List (Int × Int))) : List (List (Nat × Int)) := ks.map (List.map fun x => (x.1.toNat, x.2))
theorem nk_length (ks : List (List (Int × Int))) : (nk ks).length = ks.length := by simp [nk]
theorem nk_get (ks : List (List (Int × Int))) (i : Nat) (h : i < ks.length) : (nk ks)[i]'(by rw [nk_length]; exact h) = ks[i].map fun x => (x.1.toNat, x.2) := by simp [nk]
theorem may_ins {vars : Int} {ks : List (List (Int × Int))} (hm : codeMay vars ks = true) {i : Nat} (h : i < ks.length) : ks[i].length ≤ 128 ∧ ∀ x ∈ ks[i], insB vars ks.length ks[i].length x.1 x.2 = true := by
  unfold codeMay at hm
  simp only [Bool.and_eq_true, decide_eq_true_eq, List.all_eq_true] at hm
  have := hm.2 _ (List.getElem_mem h)
  unfold kindOk at this
  simp only [Bool.and_eq_true, decide_eq_true_eq, Bool.not_eq_true', List.any_eq_false] at this
  refine ⟨this.1, fun x hx => ?_⟩
  have h2 := this.2 x hx
  unfold badI at h2
  simpa using h2
theorem may_vars {vars : Int} {ks : List (List (Int × Int))} (hm : codeMay vars ks = true) : 0 ≤ vars ∧ vars ≤ 8 ∧ 1 ≤ ks.length ∧ ks.length ≤ 8 := by
  unfold codeMay at hm
  simp only [Bool.and_eq_true, decide_eq_true_eq] at hm
  omega
theorem ins_lo {vars : Int} {kn ln : Nat} {op n : Int} (h : insB vars kn ln op n = true) : 1 ≤ op ∧ op ≤ 17 := by
  unfold insB at h
  simp only [Bool.and_eq_true, decide_eq_true_eq] at h
  exact h.1
theorem insOk_of {vars : Int} {kn ln : Nat} {op n : Int} (h : insB vars kn ln op n = true) (hv : 0 ≤ vars) : InsOk vars.toNat kn ln op.toNat n := by
  unfold insB numB at h
  simp only [Bool.and_eq_true, Bool.or_eq_true, decide_eq_true_eq] at h
  obtain ⟨⟨h1, h2⟩, h3⟩ := h
  refine ⟨by omega, by omega, fun h => ?_, fun h => ?_, fun h => ?_⟩
  · rcases h3 with h3 | h3
    · omega
    · unfold mostOf at h3; rw [if_pos (by omega)] at h3; omega
  · rcases h3 with h3 | h3
    · omega
    · unfold mostOf at h3; rw [if_neg (by omega), if_pos (by omega)] at h3; omega
  · rcases h3 with h3 | h3
    · omega
    · unfold mostOf at h3; rw [if_neg (by omega), if_neg (by omega), if_pos (by omega)] at h3; omega
theorem kindsAt_nk {w : World} {A : Option Addr} {vars : Int} {ks : List (List (Int × Int))} (h : RKinds w A ks) (hm : codeMay vars ks = true) : KindsAt w A (nk ks) := by
  rcases h with rfl | ⟨b, o, rfl, h⟩
  · exact .inl rfl
  · refine .inr ⟨b, o, rfl, fun i hi => ?_⟩
    rw [nk_length] at hi
    obtain ⟨lA, lc, h1, h2, _⟩ := h i hi
    have hx := (may_ins hm hi).2
    refine ⟨lA, lc, by rw [nk_get ks i hi, List.length_map]; exact h1, ?_⟩
    rw [nk_get ks i hi]
    generalize ks[i] = l at *
    rcases h2 with rfl | ⟨lb, lo, rfl, h2⟩
    · exact .inl rfl
    · refine .inr ⟨lb, lo, rfl, fun j hj => ?_⟩
      rw [List.length_map] at hj
      have := ins_lo (hx _ (List.getElem_mem hj))
      obtain ⟨c0, c1⟩ := h2 j hj
      simp only [List.getElem_map]
      rw [Int.toNat_of_nonneg (by omega)]
      exact ⟨c0, c1⟩
theorem nk_ok {vars : Int} {ks : List (List (Int × Int))} (hm : codeMay vars ks = true) : ∀ i (h : i < (nk ks).length), (nk ks)[i].length ≤ 128 ∧ ∀ x ∈ (nk ks)[i], InsOk vars.toNat (nk ks).length (nk ks)[i].length x.1 x.2 := by
  intro i hi
  rw [nk_length] at hi
  have hx := may_ins hm hi
  rw [nk_get ks i hi, List.length_map, nk_length]
  refine ⟨hx.1, fun x hxm => ?_⟩
  obtain ⟨y, hy, rfl⟩ := List.mem_map.1 hxm
  exact insOk_of (hx.2 y hy) (may_vars hm).1
/-- What a machine does at an event, of a state. -/
def runV (me procs seed : Int) (ks : List (List (Nat × Int))) (T O S d : Int) (kq : Nat) (l : List Int) (sent drawn : Int) : Vm :=
  if h : kq < ks.length then Vm.go ⟨T, O, S, me, kq, d, me, procs, seed, none, 0, none⟩ ks[kq] 256 (vm0 l sent drawn) else vm0 l sent drawn
theorem run_yes (MB : Nat) (vars : Int) (kA : Option Addr) (ks : List (List (Int × Int))) (kc : Nat) (me procs seed : Int) (A : Option Addr) (l : List Int) (c : Nat) (sent drawn T O S d : Int) (kq : Nat) (w : World)
    (hM : MachAt w MB vars kA ks.length kc me procs seed) (hK : RKinds w kA ks) (hmay : codeMay vars ks = true) (hargs : argsOk me procs = true) (hA : Rd w A (ints l)) (hst : stOk vars l.length sent drawn = true) (hev : MayB T O S me (kq : Int) d procs = true) :
    Calls Try.prog 42 #[.pointer (some ⟨MB, 0, none⟩), .agg #[.slice A l.length c, .int .i64 sent, .int .i64 drawn], .agg #[.int .i64 T, .int .i64 O, .int .i64 S, .int .i64 me, .int .i64 (kq : Int), .int .i64 d]] w
      (RunOut w (runV me procs seed (nk ks) T O S d kq l sent drawn)) := by
  have hv := may_vars hmay
  have hl : (l.length : Int) = vars := by unfold stOk at hst; simp only [Bool.and_eq_true, decide_eq_true_eq] at hst; exact hst.1.1
  have ha : 1 ≤ me ∧ 1 ≤ procs ∧ procs ≤ 16 := by unfold argsOk at hargs; simp only [Bool.and_eq_true, decide_eq_true_eq] at hargs; omega
  have hvl : vars.toNat = l.length := by omega
  refine run_ok MB vars kA (nk ks) kc me procs seed A l c sent drawn T O S d kq _ w (by rw [nk_length]; exact hM) (kindsAt_nk hK hmay) ?_ (by rw [nk_length]; omega) ha.1 ha.2 hA (by omega) hst hev rfl
  rw [← hvl]
  exact nk_ok hmay
end Go.Proofs.Ytgijkgngldfdiaa
