/- the closure of down: the place of the least one among one and both behind it. Helper. -/
import Derived.Test.YtghmldfllieonaaHeapUp
namespace Go.Proofs.Ytghmldfllieonaa
open Go.RowKit
set_option linter.unusedVariables false
set_option linter.unusedSimpArgs false
/-- What it has found behind so many looks. -/
def lstS (l : List It) (i : Nat) : Nat → Nat
  | 0 => i
  | 1 => if 2 * i + 1 < l.length ∧ (g l (2 * i + 1)).less (g l i) = true then 2 * i + 1 else i
  | _ => lst l i
theorem lstS_stop (l : List It) (i s : Nat) (hs : s ≤ 2) (h : ¬ (s < 2 ∧ 2 * i + 1 + s < l.length)) : lstS l i s = lst l i := by
  have h1 : s = 0 ∨ s = 1 ∨ s = 2 := by omega
  rcases h1 with rfl | rfl | rfl
  · unfold lstS lst
    simp only
    rw [if_neg (show ¬ (2 * i + 1 < l.length ∧ (g l (2 * i + 1)).less (g l i) = true) by omega), if_neg (by omega)]
  · unfold lstS lst
    simp only
    rw [if_neg (show ¬ (2 * i + 2 < l.length ∧ _) by omega)]
  · rfl
theorem lstS_step (l : List It) (i s : Nat) (hs : s < 2) (h : 2 * i + 1 + s < l.length) : lstS l i (s + 1) = if (g l (2 * i + 1 + s)).less (g l (lstS l i s)) = true then 2 * i + 1 + s else lstS l i s := by
  have h1 : s = 0 ∨ s = 1 := by omega
  rcases h1 with rfl | rfl
  · show (if 2 * i + 1 < l.length ∧ _ then _ else _) = _
    simp only [lstS, Nat.add_zero] at h ⊢
    by_cases e : (g l (2 * i + 1)).less (g l i) = true
    · rw [if_pos ⟨h, e⟩, if_pos e]
    · rw [if_neg (fun x => e x.2), if_neg e]
  · show lst l i = _
    unfold lst
    simp only
    by_cases e : (g l (2 * i + 1 + 1)).less (g l (lstS l i 1)) = true
    · rw [if_pos e]
      exact if_pos ⟨h, e⟩
    · rw [if_neg e]
      exact if_neg (fun x => e x.2)
theorem lstS_lt (l : List It) (i s : Nat) (hi : i < l.length) : lstS l i s < l.length := by
  match s with
  | 0 => exact hi
  | 1 =>
    show (if 2 * i + 1 < l.length ∧ _ then _ else _) < _
    by_cases h : 2 * i + 1 < l.length ∧ (g l (2 * i + 1)).less (g l i) = true
    · rw [if_pos h]; exact h.1
    · rw [if_neg h]; exact hi
  | s + 2 => exact (lst_spec l i hi).1
set_option maxRecDepth 100000
set_option maxHeartbeats 1600000
theorem least_any (w : World) (gH gB b off c n : Nat) (l : List It) (blk : Option Nat) (i : Nat) (hn : n = l.length) (hH : w.cell? ⟨gH, 0, none⟩ = some (.pointer (some ⟨gB, 0, none⟩))) (hB : w.cell? ⟨gB, 0, none⟩ = some (.slice (some ⟨b, off, none⟩) n c))
    (ho : Own w 36 7 (.slice (some ⟨b, off, none⟩) n c) n (rowsI l) blk) (hi : i < n) (hl : n ≤ 100000) :
    Calls Try.prog 41 #[.int .i64 (i : Int), .pointer (some ⟨gH, 0, none⟩)] w fun e w' => e = .returned (.int .i64 (lst l i : Nat)) ∧ Nw w w' := by
  obtain ⟨R, hR⟩ : ∃ R, lst l i = R := ⟨_, rfl⟩
  have HR := Lib.hid hR
  rw [hR]
  have HN := Lib.hid hn
  have HO := Lib.hid ho
  have H1 := Lib.hid hH
  have H2 := Lib.hid hB
  have w1 : IntKind.i64.wrap (2 * (i : Int)) = 2 * (i : Int) := IntWalk.i64_in (n := 2 * (i : Int)) (by constructor <;> omega)
  have w2 : IntKind.i64.wrap (2 * (i : Int) + 1) = 2 * (i : Int) + 1 := IntWalk.i64_in (n := 2 * (i : Int) + 1) (by constructor <;> omega)
  have w3 : IntKind.i64.wrap (2 * (i : Int) + 2) = 2 * (i : Int) + 2 := IntWalk.i64_in (n := 2 * (i : Int) + 2) (by constructor <;> omega)
  clear hR hn ho hH hB
  go_enter Try.func41, Try.ntmps41
  go_wp2_with fail
  go_loopw [4, 5] (fun s4 s5 wr => ∃ (s k out : Nat), s ≤ 2 ∧ k = 2 * i + 1 + s ∧ out = lstS l i s ∧ s4 = .int .i64 (out : Int) ∧ s5 = .int .i64 (k : Int) ∧ Nw w wr) (fun _ s5 _ => 2 * i + 4 - (intOf s5).toNat)
  case atStart => exact ⟨0, 2 * i + 1, i, by omega, by omega, rfl, rfl, by simp, Nw.refl w⟩
  case round =>
    obtain ⟨s, k, out, hs, hk, hout, rfl, rfl, hw⟩ := hrel
    have HK := Lib.hid (show s ≤ 2 ∧ k = 2 * i + 1 + s ∧ out = lstS l i s from ⟨hs, hk, hout⟩)
    have c0 := hw.cell H1.out
    have c1 := hw.cell H2.out
    have hol : out < n := by rw [hout, HN.out]; exact lstS_lt l i s (by rw [← HN.out]; exact hi)
    have HW := Lib.hid hw
    clear hout hw
    by_cases hgo : s < 2 ∧ k < n
    · have g1 : decide ((k : Int) ≤ 2 * (i : Int) + 2) = true := by simp; omega
      have g2 : (k : Int) ≤ 2 * (i : Int) + 2 := by omega
      have g3 : (k : Int) < (n : Int) := by omega
      have g4 : (out : Int) < (n : Int) := by omega
      have kn := hgo.2
      have HG := Lib.hid hgo
      clear hk hs hgo
      have hown : Own wr 36 7 (.slice (some ⟨b, off, none⟩) n c) n (rowsI l) blk := HO.out.kept fun g hg => HW.out.block g (HO.out.lt g hg)
      have it_k := fun j hj => hown.item kn j hj
      have it_out := fun j hj => hown.item hol j hj
      have c2 : wr.cell? ⟨b, off + k * 7, none⟩ = some (.int .i64 (g l k).k.T) := (it_k 0 (by omega)).1
      have c3 : wr.cell? ⟨b, off + k * 7 + 1, none⟩ = some (.int .i64 (g l k).k.O) := (it_k 1 (by omega)).1
      have c4 : wr.cell? ⟨b, off + k * 7 + 2, none⟩ = some (.int .i64 (g l k).k.S) := (it_k 2 (by omega)).1
      have c5 : wr.cell? ⟨b, off + k * 7 + 3, none⟩ = some (.int .i64 (g l k).p) := (it_k 3 (by omega)).1
      have c6 : wr.cell? ⟨b, off + k * 7 + 4, none⟩ = some (.int .i64 (g l k).q) := (it_k 4 (by omega)).1
      have c7 : wr.cell? ⟨b, off + k * 7 + 5, none⟩ = some (.int .i64 (g l k).d) := (it_k 5 (by omega)).1
      have c8 : wr.cell? ⟨b, off + k * 7 + 6, none⟩ = some (.int .i64 (g l k).n) := (it_k 6 (by omega)).1
      have c9 : wr.cell? ⟨b, off + out * 7, none⟩ = some (.int .i64 (g l out).k.T) := (it_out 0 (by omega)).1
      have c10 : wr.cell? ⟨b, off + out * 7 + 1, none⟩ = some (.int .i64 (g l out).k.O) := (it_out 1 (by omega)).1
      have c11 : wr.cell? ⟨b, off + out * 7 + 2, none⟩ = some (.int .i64 (g l out).k.S) := (it_out 2 (by omega)).1
      have c12 : wr.cell? ⟨b, off + out * 7 + 3, none⟩ = some (.int .i64 (g l out).p) := (it_out 3 (by omega)).1
      have c13 : wr.cell? ⟨b, off + out * 7 + 4, none⟩ = some (.int .i64 (g l out).q) := (it_out 4 (by omega)).1
      have c14 : wr.cell? ⟨b, off + out * 7 + 5, none⟩ = some (.int .i64 (g l out).d) := (it_out 5 (by omega)).1
      have c15 : wr.cell? ⟨b, off + out * 7 + 6, none⟩ = some (.int .i64 (g l out).n) := (it_out 6 (by omega)).1
      have hss : ∀ W, Nw wr W → Nw wr W ∧ W.cell? ⟨gH, 0, none⟩ = some (.pointer (some ⟨gB, 0, none⟩)) ∧ W.cell? ⟨gB, 0, none⟩ = some (.slice (some ⟨b, off, none⟩) n c) ∧ W.cell? ⟨b, off + k * 7, none⟩ = some (.int .i64 (g l k).k.T) ∧ W.cell? ⟨b, off + k * 7 + 1, none⟩ = some (.int .i64 (g l k).k.O) ∧ W.cell? ⟨b, off + k * 7 + 2, none⟩ = some (.int .i64 (g l k).k.S) ∧ W.cell? ⟨b, off + k * 7 + 3, none⟩ = some (.int .i64 (g l k).p) ∧ W.cell? ⟨b, off + k * 7 + 4, none⟩ = some (.int .i64 (g l k).q) ∧ W.cell? ⟨b, off + k * 7 + 5, none⟩ = some (.int .i64 (g l k).d) ∧ W.cell? ⟨b, off + k * 7 + 6, none⟩ = some (.int .i64 (g l k).n) ∧ W.cell? ⟨b, off + out * 7, none⟩ = some (.int .i64 (g l out).k.T) ∧ W.cell? ⟨b, off + out * 7 + 1, none⟩ = some (.int .i64 (g l out).k.O) ∧ W.cell? ⟨b, off + out * 7 + 2, none⟩ = some (.int .i64 (g l out).k.S) ∧ W.cell? ⟨b, off + out * 7 + 3, none⟩ = some (.int .i64 (g l out).p) ∧ W.cell? ⟨b, off + out * 7 + 4, none⟩ = some (.int .i64 (g l out).q) ∧ W.cell? ⟨b, off + out * 7 + 5, none⟩ = some (.int .i64 (g l out).d) ∧ W.cell? ⟨b, off + out * 7 + 6, none⟩ = some (.int .i64 (g l out).n) := fun W h => ⟨h, h.cell c0, h.cell c1, h.cell c2, h.cell c3, h.cell c4, h.cell c5, h.cell c6, h.cell c7, h.cell c8, h.cell c9, h.cell c10, h.cell c11, h.cell c12, h.cell c13, h.cell c14, h.cell c15⟩
      have HSS := Lib.hid hss
      have KB := Lib.hid (fun W => byKeyI_any (g l k) (g l out) W)
      obtain ⟨C, hC⟩ : ∃ C, C = (g l k).cmp (g l out) := ⟨_, rfl⟩
      rw [← hC] at KB
      have hcl := It.cmp_neg (g l k) (g l out)
      rw [← hC] at hcl
      have HCL := Lib.hid hcl
      have hi0 := Nw.refl wr
      clear hss hcl hC it_k it_out hown
      go_wp2_with fail
      go_region_held3 (fun W => Nw wr W ∧ W.cell? ⟨gH, 0, none⟩ = some (.pointer (some ⟨gB, 0, none⟩)) ∧ W.cell? ⟨gB, 0, none⟩ = some (.slice (some ⟨b, off, none⟩) n c) ∧ W.cell? ⟨b, off + k * 7, none⟩ = some (.int .i64 (g l k).k.T) ∧ W.cell? ⟨b, off + k * 7 + 1, none⟩ = some (.int .i64 (g l k).k.O) ∧ W.cell? ⟨b, off + k * 7 + 2, none⟩ = some (.int .i64 (g l k).k.S) ∧ W.cell? ⟨b, off + k * 7 + 3, none⟩ = some (.int .i64 (g l k).p) ∧ W.cell? ⟨b, off + k * 7 + 4, none⟩ = some (.int .i64 (g l k).q) ∧ W.cell? ⟨b, off + k * 7 + 5, none⟩ = some (.int .i64 (g l k).d) ∧ W.cell? ⟨b, off + k * 7 + 6, none⟩ = some (.int .i64 (g l k).n) ∧ W.cell? ⟨b, off + out * 7, none⟩ = some (.int .i64 (g l out).k.T) ∧ W.cell? ⟨b, off + out * 7 + 1, none⟩ = some (.int .i64 (g l out).k.O) ∧ W.cell? ⟨b, off + out * 7 + 2, none⟩ = some (.int .i64 (g l out).k.S) ∧ W.cell? ⟨b, off + out * 7 + 3, none⟩ = some (.int .i64 (g l out).p) ∧ W.cell? ⟨b, off + out * 7 + 4, none⟩ = some (.int .i64 (g l out).q) ∧ W.cell? ⟨b, off + out * 7 + 5, none⟩ = some (.int .i64 (g l out).d) ∧ W.cell? ⟨b, off + out * 7 + 6, none⟩ = some (.int .i64 (g l out).n)) ((refine HSS.out _ ?_; repeat (first | assumption | exact Nw.refl wr | refine Nw.drew ?_ | refine Nw.alloc ?_ _))) (first
        | (go_at_call 32; refine (KB.out _).mono ?_; rintro e w1 ⟨rfl, b1⟩; have i1 : Nw wr w1 := Nw.step (by repeat (first | assumption | exact Nw.refl wr | refine Nw.drew ?_ | refine Nw.alloc ?_ _)) b1))
      case' _ => skip
      rename_i hH
      have HW1 := Lib.hid (HW.out.step hH.1)
      clear hH HSS KB hi0 HW c0 c1 c2 c3 c4 c5 c6 c7 c8 c9 c10 c11 c12 c13 c14 c15
      have hst : lstS l i (s + 1) = if (g l k).less (g l out) = true then k else out := by
        have h := lstS_step l i s HG.out.1 (by have := HK.out.2.1; have := HG.out.2; have := HN.out; omega)
        rw [← HK.out.2.1, ← HK.out.2.2] at h
        exact h
      by_cases hC : C < 0
      · have hl := HCL.out.1 hC
        rw [if_pos hl] at hst
        have HST := Lib.hid hst
        clear hst hl
        go_wp2_with fail
        go_roundw
        case rel => exact ⟨s + 1, k + 1, k, by have := HG.out.1; omega, by have := HK.out.2.1; omega, HST.out.symm, rfl, by simp, HW1.out⟩
        case measure => have := HG.out; have := HK.out.2.1; simp [intOf]; omega
      · rw [if_neg (fun h => hC (HCL.out.2 h))] at hst
        have HST := Lib.hid hst
        clear hst
        go_wp2_with fail
        go_roundw
        case rel => exact ⟨s + 1, k + 1, out, by have := HG.out.1; omega, by have := HK.out.2.1; omega, HST.out.symm, rfl, by simp, HW1.out⟩
        case measure => have := HG.out; have := HK.out.2.1; simp [intOf]; omega
    · have hRo : R = out := by rw [HK.out.2.2, ← HR.out]; exact (lstS_stop l i s hs (by rw [← hk, ← HN.out]; exact hgo)).symm
      subst hRo
      have HWx := Lib.hid HW.out
      by_cases h2 : s < 2
      · have g2 : (k : Int) ≤ 2 * (i : Int) + 2 := by omega
        have g3 : ¬ (k : Int) < (n : Int) := by omega
        go_wp2_with fail
        go_ret
        exact ⟨rfl, HWx.out⟩
      · have g2 : ¬ (k : Int) ≤ 2 * (i : Int) + 2 := by omega
        go_wp2_with fail
        go_ret
        exact ⟨rfl, HWx.out⟩
end Go.Proofs.Ytghmldfllieonaa
