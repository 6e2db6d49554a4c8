/- Which programs may be: the reference's May, of programs and of machines. Helper. -/
import Derived.Test.YtgijkgngldfdiaaVmRefIns
namespace Go.Proofs.Ytgijkgngldfdiaa
open Go.RowKit
set_option linter.unusedVariables false
set_option linter.unusedSimpArgs false
section
variable (vars : Int) (kA : Option Addr) (ks : List (List (Int × Int))) (kc : Nat) (w : World)
set_option maxRecDepth 100000
set_option maxHeartbeats 1600000
theorem kind_yes {kn : Nat} {k : List (Int × Int)} (h1 : k.length ≤ 128) (h2 : ∀ j (hj : j < k.length), insB vars kn k.length (k[j]).1 (k[j]).2 = true) : kindOk vars kn k = true := by
  unfold kindOk
  rw [decide_eq_true h1, any_none (p := badI vars kn k.length) (fun j hj => by unfold badI; rw [h2 j hj]; rfl)]
  rfl
theorem kind_no {kn : Nat} {k : List (Int × Int)} {j : Nat} (hj : j < k.length) (h : insB vars kn k.length (k[j]).1 (k[j]).2 = false) : kindOk vars kn k = false := by
  unfold kindOk
  rw [any_some (p := badI vars kn k.length) hj (by unfold badI; rw [h]; rfl)]
  simp
theorem refProg_any (hk : RKinds w kA ks) (hn : ks.length ≤ maxLen) :
    Calls Try.prog 28 #[.agg #[.int .i64 vars, .slice kA ks.length kc]] w fun e w' => e = .returned (.bool (codeMay vars ks)) ∧ Below w.heap.size w w' := by
  simp only [maxLen] at hn
  obtain ⟨B, hB⟩ : ∃ B, codeMay vars ks = B := ⟨_, rfl⟩
  rw [hB]
  unfold codeMay at hB
  have HB := Lib.hid hB
  clear hB
  have hb1 : ∀ o, Below w.heap.size w (w.alloc o) := fun o => (Below.refl _ _).alloc (Nat.le_refl _) _
  by_cases h1 : vars < 0
  · clear hk
    go_enter Try.func28, Try.ntmps28
    go_wp2_with fail
    go_ret
    exact ⟨ret_bool (by rw [← HB.out]; simp; omega), hb1 _⟩
  by_cases h2 : 8 < vars
  · clear hk
    go_enter Try.func28, Try.ntmps28
    go_wp2_with fail
    go_ret
    exact ⟨ret_bool (by rw [← HB.out]; simp; omega), hb1 _⟩
  by_cases h3 : ks.length < 1
  · have h3' : (ks.length : Int) < 1 := by omega
    clear hk
    go_enter Try.func28, Try.ntmps28
    go_wp2_with fail
    go_ret
    exact ⟨ret_bool (by rw [← HB.out]; simp; omega), hb1 _⟩
  by_cases h4 : 8 < ks.length
  · have h4' : (8 : Int) < (ks.length : Int) := by omega
    have h3' : ¬ (ks.length : Int) < 1 := by omega
    clear hk
    go_enter Try.func28, Try.ntmps28
    go_wp2_with fail
    go_ret
    exact ⟨ret_bool (by rw [← HB.out]; simp; omega), hb1 _⟩
  have hb : B = ks.all (kindOk vars ks.length) := by
    rw [← HB.out, decide_eq_true (show 0 ≤ vars by omega), decide_eq_true (show vars ≤ 8 by omega), decide_eq_true (show 1 ≤ ks.length by omega), decide_eq_true (show ks.length ≤ 8 by omega)]; rfl
  have HB2 := Lib.hid hb
  have h3' : ¬ (ks.length : Int) < 1 := by omega
  have h4' : ¬ (8 : Int) < (ks.length : Int) := by omega
  obtain ⟨w1, hw1⟩ : ∃ w1, w.alloc (.cells #[.int .i64 vars, .slice kA ks.length kc] 77) = w1 := ⟨_, rfl⟩
  have n1 : Nw w w1 := by rw [← hw1]; exact (Nw.refl w).alloc _
  have hbb : Blk w1 w.heap.size 77 #[.int .i64 vars, .slice kA ks.length kc] := by rw [← hw1]; exact Blk.last w _ _ rfl
  have p0 : w1.cell? ⟨w.heap.size, 0, none⟩ = some (.int .i64 vars) := hbb.cell 0
  have p1 : w1.cell? ⟨w.heap.size, 1, none⟩ = some (.slice kA ks.length kc) := hbb.cell 1
  have HK := Lib.hid hk
  have N1 := Lib.hid n1
  have HW := Lib.hid hw1
  obtain ⟨PB, hPB⟩ : ∃ PB, w.heap.size = PB := ⟨_, rfl⟩
  rw [hPB] at p0 p1
  have P0 := Lib.hid p0
  have P1 := Lib.hid p1
  have HPB := Lib.hid hPB
  clear hk hb n1 hw1 HB hb1 hbb hPB
  go_enter Try.func28, Try.ntmps28
  go_upto_region 1 with (fail)
  rw [HW.out, HPB.out]
  go_wp2_with fail
  clear p0 p1
  go_loopw [3] (fun i wr => ∃ k : Nat, k ≤ ks.length ∧ i = .int .i64 k ∧ Hid (Nw w1 wr ∧ ∀ j (hj : j < ks.length), j < k → kindOk vars ks.length ks[j] = true)) (fun i _ => ks.length - (intOf i).toNat)
  case atStart => exact ⟨0, Nat.zero_le _, rfl, Lib.hid ⟨Nw.refl w1, fun j hj h => by omega⟩⟩
  case round =>
    obtain ⟨k, hk, rfl, HI⟩ := hrel
    obtain ⟨wo, rfl⟩ : ∃ wo : World, wo = wr := ⟨_, rfl⟩
    have p0 := HI.out.1.cell P0.out
    have p1 := HI.out.1.cell P1.out
    by_cases hlt : k < ks.length
    · obtain ⟨b, o, lA, lc, rfl, kc0, hins, hm⟩ := HK.out.get hlt
      have kc1 := (N1.out.step HI.out.1).cell kc0
      have g1 : (k : Int) < (ks.length : Int) := by omega
      obtain ⟨m, hml⟩ : ∃ m, ks[k].length = m := ⟨_, rfl⟩
      have HML := Lib.hid hml
      rw [hml] at kc0 kc1 hm
      simp only [maxLen] at hm
      have HINS := Lib.hid hins
      have KC0 := Lib.hid kc0
      clear hins hml kc0
      by_cases h128 : m ≤ 128
      · have g3 : ¬ (128 : Int) < (m : Int) := by omega
        have g4 : decide ((128 : Int) < (m : Int)) = false := decide_eq_false g3
        go_wp2_with fail
        clear p0 p1 kc1
        go_loopw [4] (fun i wr => ∃ q : Nat, q ≤ m ∧ i = .int .i64 q ∧ Hid (Nw w1 wr ∧ ∀ j (hj : j < ks[k].length), j < q → insB vars ks.length m (ks[k][j]).1 (ks[k][j]).2 = true)) (fun i _ => m - (intOf i).toNat)
        case atStart => exact ⟨0, Nat.zero_le _, rfl, Lib.hid ⟨HI.out.1, fun j hj h => by omega⟩⟩
        case round =>
          obtain ⟨q, hq, rfl, HQ⟩ := hrel
          have p0 := HQ.out.1.cell P0.out
          have p1 := HQ.out.1.cell P1.out
          have kc1 := (N1.out.step HQ.out.1).cell KC0.out
          by_cases hqm : q < m
          · have hq' : q < ks[k].length := by rw [HML.out]; exact hqm
            obtain ⟨lb, lo, rfl, i0, i1⟩ := HINS.out.get hq'
            have x0 := (N1.out.step HQ.out.1).cell i0
            have x1 := (N1.out.step HQ.out.1).cell i1
            obtain ⟨bd, hbd⟩ : ∃ bd, insB vars ks.length m (ks[k][q]).1 (ks[k][q]).2 = bd := ⟨_, rfl⟩
            have kin := fun W => refIns_any vars (some ⟨b, o, none⟩) ks.length kc W (ks[k][q]).1 (ks[k][q]).2 m (by omega)
            rw [hbd] at kin
            have KIN := Lib.hid kin
            have HBD := Lib.hid hbd
            obtain ⟨x, hx⟩ : ∃ x, (ks[k][q]).1 = x := ⟨_, rfl⟩
            obtain ⟨y, hy⟩ : ∃ y, (ks[k][q]).2 = y := ⟨_, rfl⟩
            rw [hx] at x0 KIN
            rw [hy] at x1 KIN
            have g6 : (q : Int) < (m : Int) := by omega
            have j0 : Nw wr wr.drew := (Nw.refl wr).drew
            clear kin hbd hx hy i0 i1
            go_wp2_with fail
            (first | go_region_held3 (fun W => Nw wr W ∧ W.cell? ⟨PB, 0, none⟩ = some (.int .i64 vars) ∧ W.cell? ⟨PB, 1, none⟩ = some (.slice (some ⟨b, o, none⟩) ks.length kc) ∧ W.cell? ⟨b, o + k, none⟩ = some (.slice (some ⟨lb, lo, none⟩) m lc) ∧ W.cell? ⟨lb, lo + q * 2, none⟩ = some (.int .i64 x) ∧ W.cell? ⟨lb, lo + q * 2 + 1, none⟩ = some (.int .i64 y)) (first | exact ⟨j0, p0, p1, kc1, x0, x1⟩ | exact ⟨by assumption, Nw.cell (by assumption) p0, Nw.cell (by assumption) p1, Nw.cell (by assumption) kc1, Nw.cell (by assumption) x0, Nw.cell (by assumption) x1⟩) (first
              | (go_at_call 52; refine (KIN.out _).mono ?_; rintro e wx ⟨rfl, bx⟩; have ix := Nw.step (by assumption) bx)) | fail)
            all_goals
              have IX := Lib.hid (HQ.out.1.step ix)
              clear bx ix j0 p0 p1 kc1 x0 x1
              cases bd with
              | false =>
                go_wp2_with fail
                go_ret
                exact ⟨ret_bool (by rw [HB2.out, all_no hlt (kind_no vars hq' (by rw [HML.out]; exact HBD.out))]), N1.out.step IX.out⟩
              | true =>
                go_wp2_with fail
                go_roundw
                case rel => exact ⟨q + 1, by omega, by go_num, Lib.hid ⟨IX.out, fun j hj h => by
                  by_cases e : j = q
                  · subst e; exact HBD.out
                  · exact HQ.out.2 j hj (by omega)⟩⟩
                case measure => simp [intOf]; omega
          · have g6 : ¬ (q : Int) < (m : Int) := by omega
            go_wp2_with fail
            go_roundw
            case rel => exact ⟨k + 1, by omega, by go_num, Lib.hid ⟨HQ.out.1, fun j hj h => by
              by_cases e : j = k
              · subst e; exact kind_yes vars (by rw [HML.out]; exact h128) (fun i hi => by have := HQ.out.2 i hi (by rw [HML.out] at hi; omega); rw [HML.out]; exact this)
              · exact HI.out.2 j hj (by omega)⟩⟩
            case measure => simp [intOf]; omega
      · have g3 : (128 : Int) < (m : Int) := by omega
        have hkind : kindOk vars ks.length ks[k] = false := by unfold kindOk; rw [HML.out, decide_eq_false h128]; rfl
        have HKD := Lib.hid hkind
        clear hkind
        go_wp2_with fail
        go_ret
        exact ⟨ret_bool (by rw [HB2.out, all_no hlt HKD.out]), N1.out.step HI.out.1⟩
    · have g1 : ¬ (k : Int) < (ks.length : Int) := by omega
      go_wp2_with fail
      go_ret
      exact ⟨ret_bool (by rw [HB2.out, all_yes (fun j hj => HI.out.2 j hj (by omega))]), N1.out.step HI.out.1⟩
end
end Go.Proofs.Ytgijkgngldfdiaa
