/- Rounds: Begin. Helper. -/
import Derived.Test.YtbgpbbepeemieaaRndSet
namespace Go.Proofs.Ytbgpbbepeemieaa
open Go.RowKit
set_option linter.unusedVariables false
set_option linter.unusedSimpArgs false
def kmax : Ky := ⟨1099511627777, 0, 0⟩
def Rn.begun (r : Rn) : Rn := { r with num := r.num + 1, half := 1, col := fun i => if i = 0 then r.num + 1 else r.col i, rep := kmax, least := fun _ => kmax, seen := [] }
theorem RM.same_least {w : World} {R C S L : Nat} {r : Rn} (h : RM w R C S L r) (f : Nat → Ky) (e : ∀ i, i ≤ r.n → r.least i = f i) : RM w R C S L { r with least := f } := by
  obtain ⟨b, hb, fb⟩ := h.ls
  refine ⟨h.st, h.cs, ⟨b, hb, fun i hi => ?_⟩, h.ms, h.n1, h.n16, h.nm, h.hf, h.sn⟩
  have := fb i hi
  rw [e i hi] at this
  exact this
theorem RM.drew {w : World} {R C S L : Nat} {r : Rn} (h : RM w R C S L r) : RM w.drew R C S L r := h.kept fun _ _ => rfl
theorem kmax_any (w : World) : Calls Try.prog 23 #[] w fun e w' => e = .returned (.agg #[.int .i64 kmax.T, .int .i64 kmax.O, .int .i64 kmax.S]) ∧ Below w.heap.size w w' := max_any w
theorem wpList_clear_sn {w : World} {ops : Array Oper} {rest : List Oper} {o : Oper} {a : Act} {Q : Exit → Act → World → Prop} {S : Nat} {l : List Nat} (hg : o.guard = none) (m : Operand)
    (hop : o.op = Op.call { callee := Callee.builtin Builtin.clear, args := #[m], argTypes := #[47] }) (hm : a.eval m = .map (some S)) (hs : Sn w S l)
    (hK : ∀ w', Sn w' S [] → Chg (fun k => k = S) w w' → wpList Try.prog ops Q rest (a.put o.dst (.tuple #[])) w') : wpList Try.prog ops Q (o :: rest) a w := by
  refine wpList_plain hg fun K' hK' => ?_
  obtain ⟨w', hrun, r1, r2⟩ := hs.clear o.type
  unfold Oper.wp
  simp [execOp, hop, resolve, invoke, builtin, hm, hrun, Result.andThen]
  exact hK' _ _ (hK w' r1 r2)
set_option maxHeartbeats 1600000 in
theorem begin_any (R C S L : Nat) (r : Rn) (w : World) (h : RM w R C S L r) (hh : r.half = 0) (hn : r.num < 1000000) :
    Calls Try.prog 7 #[.pointer (some ⟨R, 0, none⟩)] w fun e w' => e = .returned (.int .i64 0) ∧ RM w' R C S L r.begun ∧ Chg (Four R C S L) w w' := by
  have k := Lib.hid (none_any R C S L r w h)
  have hn16 := h.n16
  have c0 := h.f0
  have c1 := h.f1
  rw [hh] at c1
  have y0 := h.frz.1 0
  have wr1 : IntKind.i64.wrap ((r.num : Int) + 1) = (r.num : Int) + 1 := IntWalk.i64_in (n := (r.num : Int) + 1) (by constructor <;> omega)
  have h5 := h.set0 (r.num + 1) (by omega)
  have k5 : Chg (Four R C S L) w (w.setCell ⟨R, 0, none⟩ (.int .i64 ((r.num + 1 : Nat) : Int))) := Chg.one (.inl rfl) _
  have H5 := Lib.hid h5
  have K5 := Lib.hid k5
  have km := Lib.hid (fun W => kmax_any W)
  obtain ⟨KM, hKM⟩ : ∃ KM, KM = kmax := ⟨_, rfl⟩
  rw [← hKM] at km
  have HKM := Lib.hid hKM
  clear h5 k5 h hKM
  go_enter Try.func7, Try.ntmps7
  go_upto_region 6 with (refine k.out.mono ?_; rintro e w1 ⟨rfl, rfl⟩)
  have h6 : RM (w1.setCell ⟨R, 0, none⟩ (.int .i64 ((r.num : Int) + 1))) R C S L { r with num := r.num + 1 } := H5.out
  have k6 : Chg (Four R C S L) w1 (w1.setCell ⟨R, 0, none⟩ (.int .i64 ((r.num : Int) + 1))) := K5.out
  clear c0 c1 y0 k H5 K5
  generalize World.setCell _ _ _ = w2 at h6 k6 ⊢
  have d1 := h6.f1
  have y1 := h6.frz.1 1
  dsimp only at d1
  have h7 := h6.set1 1 (by omega)
  have k7 := k6.setCell (p := ⟨R, 1, none⟩) (.inl (.inl rfl)) (.int .i64 ((1 : Nat) : Int))
  have H7 := Lib.hid h7
  have K7 := Lib.hid k7
  clear h6 k6 h7 k7
  go_upto_region 7 with (fail)
  have h7 : RM (w2.setCell ⟨R, 1, none⟩ (.int .i64 1)) R C S L { r with num := r.num + 1, half := 1 } := H7.out
  have k7 : Chg (Four R C S L) w1 (w2.setCell ⟨R, 1, none⟩ (.int .i64 1)) := K7.out
  clear d1 y1 H7 K7
  generalize World.setCell _ _ _ = w3 at h7 k7 ⊢
  have e0 : w3.cell? ⟨R, 0, none⟩ = some (.int .i64 ((r.num : Int) + 1)) := h7.f0
  have e2 : w3.cell? ⟨R, 2, none⟩ = some (.slice (some ⟨C, 0, none⟩) (r.n + 1) (r.n + 1)) := h7.f2
  have ec := h7.colAt (Nat.zero_le _)
  have yc := h7.frz.2.1 0
  have h8 := (h7.setC (Nat.zero_le _) (r.num + 1)).drew
  have k8 := (k7.setCell (p := ⟨C, 0, none⟩) (.inl (.inr (.inl rfl))) (.int .i64 ((r.num + 1 : Nat) : Int))).drew
  have H8 := Lib.hid h8
  have K8 := Lib.hid k8
  clear h7 k7 h8 k8
  go_region
  have h8 : RM (w3.setCell ⟨C, 0, none⟩ (.int .i64 ((r.num : Int) + 1))).drew R C S L { r with num := r.num + 1, half := 1, col := fun i => if i = 0 then r.num + 1 else r.col i } := H8.out
  have k8 : Chg (Four R C S L) w1 (w3.setCell ⟨C, 0, none⟩ (.int .i64 ((r.num : Int) + 1))).drew := K8.out
  clear e0 e2 ec yc H8 K8
  generalize World.drew _ = w4 at h8 k8 ⊢
  have H8 := Lib.hid h8
  have K8 := Lib.hid k8
  clear h8 k8
  go_wp2_with fail
  refine (km.out _).mono ?_
  rintro e w5 ⟨rfl, b5⟩
  have h9 := H8.out.new b5
  have k9 := K8.out.trans (Chg.of_below b5 (Nat.le_refl _) (Four R C S L)) (fun i _ h => h)
  clear H8 K8 b5
  obtain ⟨r5, r6, r7⟩ := h9.fr
  have y5 := h9.frz.1 5
  have y6 := h9.frz.1 6
  have y7 := h9.frz.1 7
  have h10 := h9.setRep KM
  have k10 := ((k9.setCell (p := ⟨R, 5, none⟩) (.inl (.inl rfl)) (.int .i64 KM.T)).setCell (p := ⟨R, 6, none⟩) (.inl (.inl rfl)) (.int .i64 KM.O)).setCell (p := ⟨R, 7, none⟩) (.inl (.inl rfl)) (.int .i64 KM.S)
  have H10 := Lib.hid h10
  have K10 := Lib.hid k10
  clear h9 k9 h10 k10
  go_upto_region 9 with (fail)
  have h10 := H10.out
  have k10 := K10.out
  clear r5 r6 r7 y5 y6 y7 H10 K10
  generalize World.setCell _ _ _ = w6 at h10 k10 ⊢
  have f4 : w6.cell? ⟨R, 4, none⟩ = some (.slice (some ⟨L, 0, none⟩) (r.n + 1) (r.n + 1)) := h10.f4
  have H10 := Lib.hid h10
  have K10 := Lib.hid k10
  clear h10 k10
  go_wp2_with fail
  go_loopw [41] (fun i wr => ∃ k : Nat, k ≤ r.n + 1 ∧ i = .int .i64 (k : Int) ∧ RM wr R C S L { r with num := r.num + 1, half := 1, col := fun i => if i = 0 then r.num + 1 else r.col i, rep := KM, least := fun i => if i < k then KM else r.least i } ∧ Chg (Four R C S L) w1 wr) (fun i _ => r.n + 1 - (intOf i).toNat)
  case atStart => exact ⟨0, by omega, rfl, H10.out, K10.out⟩
  case round =>
    obtain ⟨k, hk, rfl, hm, kc⟩ := hrel
    by_cases hlt : k ≤ r.n
    · have f4 : wr.cell? ⟨R, 4, none⟩ = some (.slice (some ⟨L, 0, none⟩) (r.n + 1) (r.n + 1)) := hm.f4
      have HM := Lib.hid hm
      have KC := Lib.hid kc
      have g1 : (k : Int) < (r.n : Int) + 1 := by omega
      have w0 : IntKind.i64.wrap ((k : Int) + 1) = (k : Int) + 1 := IntWalk.i64_in (n := (k : Int) + 1) (by constructor <;> omega)
      clear H10 K10 hm kc
      go_wp2_with fail
      go_region_with ((go_at_call 23; refine (km.out _).mono ?_; rintro e w7 ⟨rfl, b7⟩; have n7 : Nw wr w7 := (Nw.drew (Nw.refl wr)).step b7; have h7 := HM.out.new n7; have f7 : w7.cell? ⟨R, 4, none⟩ = some (.slice (some ⟨L, 0, none⟩) (r.n + 1) (r.n + 1)) := h7.f4; have k7 := KC.out.trans (Chg.of_below n7 (Nat.le_refl _) (Four R C S L)) (fun i _ h => h); obtain ⟨l0, l1, l2⟩ := h7.leastAt hlt; have y0 := h7.frz.2.2 (k * 3); have y1 := h7.frz.2.2 (k * 3 + 1); have y2 := h7.frz.2.2 (k * 3 + 2); have H7 := Lib.hid h7; have K7 := Lib.hid k7; clear h7 k7 n7 b7))
      all_goals
        go_wp2_with fail
        go_roundw
        case rel =>
          refine ⟨k + 1, by omega, by go_num, ?_, ((K7.out.setCell (p := ⟨L, _, none⟩) (.inl (.inr (.inr (.inr rfl)))) _).setCell (p := ⟨L, _, none⟩) (.inl (.inr (.inr (.inr rfl)))) _).setCell (p := ⟨L, _, none⟩) (.inl (.inr (.inr (.inr rfl)))) _⟩
          have h9 := H7.out.setL (p := k) hlt KM
          refine h9.same_least _ fun i hi => ?_
          dsimp only
          by_cases e1 : i = k
          · subst e1; rw [if_pos rfl, if_pos (by omega)]
          · rw [if_neg e1]
            by_cases e2 : i < k
            · rw [if_pos e2, if_pos (by omega)]
            · rw [if_neg e2, if_neg (by omega)]
        case measure => simp [intOf]; omega
    · obtain rfl : k = r.n + 1 := by omega
      have f3 : wr.cell? ⟨R, 3, none⟩ = some (.map (some S)) := hm.f3
      have HM := Lib.hid hm
      have KC := Lib.hid kc
      clear hm kc H10 K10 f4
      go_wp2_with (refine wpList_clear_sn rfl _ rfl rfl HM.out.ms ?_; intro w9 hs hc9)
      go_ret
      refine ⟨rfl, ?_, KC.out.trans hc9 (fun i _ e => .inr (.inr (.inl e)))⟩
      have h11 := (HM.out.setS hs hc9 (Nat.zero_le _)).same_least (fun _ => kmax) (fun i hi => by have := HKM.out; dsimp only at hi ⊢; rw [if_pos (by omega)]; exact this)
      have := HKM.out
      subst this
      exact h11
end Go.Proofs.Ytbgpbbepeemieaa
