/- Which programs may be: code.May whole. Helper. -/
import Derived.Test.YtgijkgngldfdiaaVmMayQ
namespace Go.Proofs.Ytgijkgngldfdiaa
open Go.RowKit
set_option linter.unusedVariables false
set_option linter.unusedSimpArgs false
def kindOk (vars : Int) (kn : Nat) (k : List (Int × Int)) : Bool := decide (k.length ≤ 128) && !(k.any (badI vars kn k.length))
def codeMay (vars : Int) (ks : List (List (Int × Int))) : Bool := decide (0 ≤ vars) && decide (vars ≤ 8) && decide (1 ≤ ks.length) && decide (ks.length ≤ 8) && ks.all (kindOk vars ks.length)
theorem all_yes {α : Type} {p : α → Bool} {l : List α} (h : ∀ j (hj : j < l.length), p l[j] = true) : l.all p = true := by
  rw [List.all_eq_true]
  intro x hx
  obtain ⟨j, hj, rfl⟩ := List.getElem_of_mem hx
  exact h j hj
theorem all_no {α : Type} {p : α → Bool} {l : List α} {j : Nat} (hj : j < l.length) (h : p l[j] = false) : l.all p = false := by
  rw [List.all_eq_false]
  exact ⟨_, List.getElem_mem hj, by rw [h]; simp⟩
section
variable (vars : Int) (kA : Option Addr) (ks : List (List (Int × Int))) (kc : Nat) (w : World)
set_option maxRecDepth 100000
set_option maxHeartbeats 1600000
theorem codeMay_any (hk : RKinds w kA ks) (hn : ks.length ≤ maxLen) :
    Calls Try.prog 53 #[.agg #[.int .i64 vars, .slice kA ks.length kc]] w fun e w' => e = .returned (.bool (codeMay vars ks)) ∧ Below w.heap.size w w' := by
  simp only [maxLen] at hn
  obtain ⟨B, hB⟩ : ∃ B, codeMay vars ks = B := ⟨_, rfl⟩
  rw [hB]
  unfold codeMay at hB
  have HB := Lib.hid hB
  clear hB
  have hb1 : ∀ o, Below w.heap.size w (w.alloc o) := fun o => (Below.refl _ _).alloc (Nat.le_refl _) _
  by_cases h1 : vars < 0
  · clear hk
    go_enter Try.func53, Try.ntmps53
    go_wp2_with fail
    go_ret
    exact ⟨ret_bool (by rw [← HB.out]; simp; omega), hb1 _⟩
  by_cases h2 : 8 < vars
  · clear hk
    go_enter Try.func53, Try.ntmps53
    go_wp2_with fail
    go_ret
    exact ⟨ret_bool (by rw [← HB.out]; simp; omega), hb1 _⟩
  by_cases h3 : ks.length < 1
  · have h3' : (ks.length : Int) < 1 := by omega
    clear hk
    go_enter Try.func53, Try.ntmps53
    go_wp2_with fail
    go_ret
    exact ⟨ret_bool (by rw [← HB.out]; simp; omega), hb1 _⟩
  by_cases h4 : 8 < ks.length
  · have h4' : (8 : Int) < (ks.length : Int) := by omega
    have h3' : ¬ (ks.length : Int) < 1 := by omega
    clear hk
    go_enter Try.func53, Try.ntmps53
    go_wp2_with fail
    go_ret
    exact ⟨ret_bool (by rw [← HB.out]; simp; omega), hb1 _⟩
  have hb : B = ks.all (kindOk vars ks.length) := by
    rw [← HB.out, decide_eq_true (show 0 ≤ vars by omega), decide_eq_true (show vars ≤ 8 by omega), decide_eq_true (show 1 ≤ ks.length by omega), decide_eq_true (show ks.length ≤ 8 by omega)]; rfl
  have HB2 := Lib.hid hb
  have h3' : ¬ (ks.length : Int) < 1 := by omega
  have h4' : ¬ (8 : Int) < (ks.length : Int) := by omega
  obtain ⟨w1, hw1⟩ : ∃ w1, w.alloc (.cells #[.int .i64 vars, .slice kA ks.length kc] 77) = w1 := ⟨_, rfl⟩
  have n1 : Nw w w1 := by rw [← hw1]; exact (Nw.refl w).alloc _
  have hbb : Blk w1 w.heap.size 77 #[.int .i64 vars, .slice kA ks.length kc] := by rw [← hw1]; exact Blk.last w _ _ rfl
  have p0 : w1.cell? ⟨w.heap.size, 0, none⟩ = some (.int .i64 vars) := hbb.cell 0
  have p1 : w1.cell? ⟨w.heap.size, 1, none⟩ = some (.slice kA ks.length kc) := hbb.cell 1
  have HK := Lib.hid hk
  have N1 := Lib.hid n1
  have HW := Lib.hid hw1
  obtain ⟨PB, hPB⟩ : ∃ PB, w.heap.size = PB := ⟨_, rfl⟩
  rw [hPB] at p0 p1
  have P0 := Lib.hid p0
  have P1 := Lib.hid p1
  have HPB := Lib.hid hPB
  clear hk hb n1 hw1 HB hb1 hbb hPB
  go_enter Try.func53, Try.ntmps53
  go_upto_region 1 with (fail)
  rw [HW.out, HPB.out]
  go_wp2_with fail
  go_loopw [29] (fun i wr => ∃ k : Nat, k ≤ ks.length ∧ i = .int .i64 k ∧ Hid (Nw w1 wr ∧ ∀ j (hj : j < ks.length), j < k → kindOk vars ks.length ks[j] = true)) (fun i _ => ks.length - (intOf i).toNat)
  case atStart => exact ⟨0, Nat.zero_le _, rfl, Lib.hid ⟨Nw.refl w1, fun j hj h => by omega⟩⟩
  case round =>
    obtain ⟨k, hk, rfl, HI⟩ := hrel
    by_cases hlt : k < ks.length
    · obtain ⟨b, o, lA, lc, rfl, kc1, hins, hm⟩ := HK.out.get hlt
      have kc1 := (N1.out.step HI.out.1).cell kc1
      have hins := hins.keep (N1.out.step HI.out.1)
      have g1 : (k : Int) < (ks.length : Int) := by omega
      obtain ⟨m, hml⟩ : ∃ m, ks[k].length = m := ⟨_, rfl⟩
      have HML := Lib.hid hml
      rw [hml] at kc1 hm
      simp only [maxLen] at hm
      obtain ⟨w2, hw2⟩ : ∃ w2, wr.alloc (.cells #[.slice lA m lc] 107) = w2 := ⟨_, rfl⟩
      have n2 : Nw wr w2 := by rw [← hw2]; exact (Nw.refl wr).alloc _
      have hb2 : Blk w2 wr.heap.size 107 #[.slice lA m lc] := by rw [← hw2]; exact Blk.last wr _ _ rfl
      have x0 : w2.cell? ⟨wr.heap.size, 0, none⟩ = some (.slice lA m lc) := hb2.cell 0
      have N12 := Lib.hid (HI.out.1.step n2)
      have hins2 := Lib.hid (hins.keep n2)
      have kco : m ≤ 4294967295 → _ := fun hm2 => contains_any vars (some ⟨b, o, none⟩) ks.length kc w2 PB wr.heap.size lA ks[k] lc (by rw [HML.out]; exact hm2) hins2.out (N12.out.cell P0.out) (N12.out.cell P1.out) (by rw [HML.out]; exact x0)
      rw [HML.out] at kco
      have KCO := Lib.hid kco
      have HW2 := Lib.hid hw2
      clear n2 hb2 hins hw2 kco p0 p1 hml
      by_cases h128 : m ≤ 128
      · have g3 : ¬ (128 : Int) < (m : Int) := by omega
        have g4 : decide ((128 : Int) < (m : Int)) = false := decide_eq_false g3
        obtain ⟨bd, hbd⟩ : ∃ bd, ks[k].any (badI vars ks.length m) = bd := ⟨_, rfl⟩
        have kco := KCO.out (by omega)
        rw [hbd] at kco
        have KCB := Lib.hid kco
        have hkind : kindOk vars ks.length ks[k] = !bd := by unfold kindOk; rw [HML.out, hbd, decide_eq_true h128]; rfl
        have HKD := Lib.hid hkind
        clear kco hbd hkind KCO
        cases bd with
        | true =>
          go_upto_region 7 with (fail)
          rw [HW2.out]
          go_wp2_with fail
          refine KCB.out.mono ?_
          rintro e w3 ⟨rfl, b3⟩
          have B3 := Lib.hid b3
          clear b3 x0 kc1
          go_wp2_with fail
          go_ret
          exact ⟨ret_bool (by rw [HB2.out, all_no hlt HKD.out]), (N1.out.step N12.out).step B3.out⟩
        | false =>
          go_upto_region 7 with (fail)
          rw [HW2.out]
          go_wp2_with fail
          refine KCB.out.mono ?_
          rintro e w3 ⟨rfl, b3⟩
          have B3 := Lib.hid b3
          clear b3 x0 kc1
          go_wp2_with fail
          go_roundw
          case rel => exact ⟨k + 1, by omega, by go_num, Lib.hid ⟨N12.out.step B3.out, fun j hj h => by
            by_cases e : j = k
            · subst e; exact HKD.out
            · exact HI.out.2 j hj (by omega)⟩⟩
          case measure => simp [intOf]; omega
      · have g3 : (128 : Int) < (m : Int) := by omega
        have hkind : kindOk vars ks.length ks[k] = false := by unfold kindOk; rw [HML.out, decide_eq_false h128]; rfl
        have HKD := Lib.hid hkind
        clear KCO hkind
        go_upto_region 7 with (fail)
        rw [HW2.out]
        go_wp2_with fail
        go_ret
        exact ⟨ret_bool (by rw [HB2.out, all_no hlt HKD.out]), N1.out.step N12.out⟩
    · go_wp2_with fail
      go_ret
      exact ⟨ret_bool (by rw [HB2.out, all_yes (fun j hj => HI.out.2 j hj (by omega))]), N1.out.step HI.out.1⟩
end
end Go.Proofs.Ytgijkgngldfdiaa
