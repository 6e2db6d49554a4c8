/- Messages: variables read, or not. Helper. -/
import Derived.Test.YtnbcjjgilndlaaaRdTx
import Derived.Test.YtnbcjjgilndlaaaRdSm
import Derived.Laws.MakeOwn
namespace Go.Proofs.Ytnbcjjgilndlaaa
open Go.RowKit
set_option linter.unusedVariables false
set_option linter.unusedSimpArgs false
set_option maxRecDepth 100000
/-- The numbers of bytes, eight bytes each. -/
def nums (bs : List UInt8) (N : Nat) : List Int := (List.range N).map fun j => s64 (beN ((bs.drop (8 * j)).take 8))
theorem infoI64 : (Try.prog.info? 2).map (fun i => (i.zero, i.size, i.bytes)) = some (some (.int .i64 0), 1, 8) := by kernel_rfl
theorem make_longs (n : Nat) (h : n ≤ 8) : ∃ A : Array Value, A.size = n ∧ (∀ i, i < n → A[i]? = some (.int .i64 0)) ∧
    ∀ W : World, (Instr.makeSlice 38 (.int .i64 (n : Int)) (.int .i64 (n : Int))).run Try.prog W = .ok (.slice (some ⟨W.heap.size, 0, none⟩) n n) (W.alloc (.cells A 2)) := by
  obtain ⟨i0, hi0, hz0, hz1, hz2⟩ := info_parts infoI64
  refine ⟨madeCells #[.int .i64 0] n, by simp [madeCells], fun i hi => ?_, fun W => ?_⟩
  · simp [madeCells, hi, Nat.mod_one]
  · have := run_make (P := Try.prog) W 38 2 i0 _ Try.underlying38 hi0 hz0 .i64 .i64 (n : Int) (n : Int) (by omega) (by omega) (by rw [hz2]; omega) (by omega)
    rw [this, hz1, show ((n : Int)).toNat = n by omega, Nat.mul_one]
    rfl
set_option maxHeartbeats 3200000 in
theorem long_cut (w0 w : World) (P M : Nat) (T : TypeId) (A : Option Addr) (c : Nat) (bs : List UInt8) (mc : Array Value) (o : Nat) (v : Int) (h : RdSt w0 w P M T A c bs mc) (ho : mc[o]? = some (.int .i64 v)) (hk : 8 ≤ bs.length) :
    Calls Try.prog 61 #[.pointer (some ⟨P, 0, none⟩), .pointer (some ⟨M, o, none⟩)] w fun e w' => e = .returned (.tuple #[]) ∧ RdSt w0 w' P M T (cutA A c 8) (c - 8) (bs.drop 8) (mc.setIfInBounds o (.int .i64 (s64 (beN (bs.take 8))))) := by
  have hr := s64_range (n := beN (bs.take 8)) (by have := beN_take_lt bs 8; omega)
  have KN := Lib.hid (number_read w P M o v A bs.length c bs 8 (-9223372036854775808) 9223372036854775807 h.pen h.txt rfl h.cap ((h.msg.cell o).trans ho) (h.msg.frozen o) h.ne (fun a ha => ⟨(h.ap a ha).1, (h.ap a ha).2.1⟩) (by omega) hk hr.1 hr.2)
  have H := Lib.hid h
  clear h ho hr
  go_enter Try.func61, Try.ntmps61
  go_wp2_with fail
  refine KN.out.mono ?_
  rintro e w2 ⟨rfl, hw2, hb⟩
  have hl : (bs.drop 8).length = bs.length - 8 := by simp
  have HS := Lib.hid (show RdSt w0 w2 P M T (cutA A c 8) (c - 8) (bs.drop 8) (mc.setIfInBounds o (.int .i64 (s64 (beN (bs.take 8))))) from
    ⟨by rw [hl, hw2]; exact (H.out.pen.far (p := ⟨M, o, none⟩) H.out.ne.symm _).set_ 0 _, by rw [hw2]; exact (H.out.msg.set_ o _).far (p := ⟨P, 0, none⟩) H.out.ne _, hb, by rw [hl]; have := H.out.cap; omega, fun a ha => by obtain ⟨a0, e0, e1⟩ := cutA_block ha; rw [e1]; exact H.out.ap a0 e0, H.out.ne, by rw [hw2]; exact (H.out.chg.setCell (.inl (.inr rfl)) _).setCell (.inl (.inl rfl)) _⟩)
  clear hw2 hb hl
  go_wp2_with fail
  go_end0
  exact ⟨rfl, HS.out⟩
/-- The pen behind a number that was read into a box. -/
theorem RdSt.boxed {w0 w : World} {P M : Nat} {T : TypeId} {A : Option Addr} {c : Nat} {bs : List UInt8} {mc : Array Value} (h : RdSt w0 w P M T A c bs mc) (x0 V : Value) (t : TypeId) (k : Nat) (hk : k ≤ bs.length) :
    RdSt w0 (((w.alloc (.cells #[x0] t)).setCell ⟨w.heap.size, 0, none⟩ V).setCell ⟨P, 0, none⟩ (.slice (cutA A c k) (bs.length - k) (c - k))) P M T (cutA A c k) (c - k) (bs.drop k) mc := by
  have hx1 : P ≠ w.heap.size := Nat.ne_of_lt h.pen.lt
  have hx2 : M ≠ w.heap.size := Nat.ne_of_lt h.msg.lt
  have hl : (bs.drop k).length = bs.length - k := by simp
  refine ⟨?_, ?_, ?_, by rw [hl]; have := h.cap; omega, fun a ha => ?_, h.ne, ?_⟩
  · rw [hl]
    exact (((h.pen.alloc _).far (p := ⟨w.heap.size, 0, none⟩) hx1 _).set_ 0 _)
  · exact (((h.msg.alloc _).far (p := ⟨w.heap.size, 0, none⟩) hx2 _).far (p := ⟨P, 0, none⟩) h.ne _)
  · have h1 : BytesAt (w.alloc (.cells #[x0] t)) A bs := h.txt.below ((Below.refl _ w).alloc (Nat.le_refl _) _) (Nat.le_refl _)
    have h2 := h1.cut c hk h.cap
    refine ((h2.far (p := ⟨w.heap.size, 0, none⟩) V fun b o e => ?_).far (p := ⟨P, 0, none⟩) _ fun b o e => ?_)
    · obtain ⟨a0, e0, e1⟩ := cutA_block (c := c) (k := k) e
      have := h.lt e0; have e1 : b = a0.block := e1; show b ≠ w.heap.size; omega
    · obtain ⟨a0, e0, e1⟩ := cutA_block (c := c) (k := k) e
      have e1 : b = a0.block := e1
      rw [e1]; exact (h.ap a0 e0).1
  · obtain ⟨a0, e0, e1⟩ := cutA_block ha
    rw [e1]; exact h.ap a0 e0
  · exact (((h.chg.alloc _).setCell (.inr h.chg.size) _).setCell (.inl (.inl rfl)) _)
set_option maxHeartbeats 3200000 in
theorem vars_any (w0 w : World) (P M : Nat) (T : TypeId) (A : Option Addr) (c : Nat) (bs : List UInt8) (mc : Array Value) (o : Nat) (h : RdSt w0 w P M T A c bs mc) (ho : mc[o]? = some (.slice none 0 0)) :
    Calls Try.prog 70 #[.pointer (some ⟨P, 0, none⟩), .pointer (some ⟨M, o, none⟩)] w fun e w' =>
      ((1 ≤ bs.length ∧ beN (bs.take 1) ≤ 8 ∧ 1 + 8 * beN (bs.take 1) ≤ bs.length) ∧ e = .returned (.tuple #[]) ∧ ∃ A' c' G, RdSt w0 w' P M T A' c' (bs.drop (1 + 8 * beN (bs.take 1))) (mc.setIfInBounds o (.slice (some ⟨G, 0, none⟩) (beN (bs.take 1)) (beN (bs.take 1)))) ∧ IntsAt w' (some ⟨G, 0, none⟩) (nums (bs.drop 1) (beN (bs.take 1))) ∧ w.heap.size ≤ G) ∨
      (¬ (1 ≤ bs.length ∧ beN (bs.take 1) ≤ 8 ∧ 1 + 8 * beN (bs.take 1) ≤ bs.length) ∧ e = .panicked boom ∧ Chg (fun i => i = P ∨ i = M) w0 w') := by
  have c0 : w.cell? ⟨M, o, none⟩ = some (.slice none 0 0) := (h.msg.cell o).trans ho
  have hX : Blk (w.alloc (.cells #[.int .i64 0] 2)) w.heap.size 2 #[.int .i64 0] := Blk.last w _ _ rfl
  by_cases hs : 1 ≤ bs.length ∧ beN (bs.take 1) ≤ 8
  · obtain ⟨N, hN⟩ : ∃ N, beN (bs.take 1) = N := ⟨_, rfl⟩
    rw [hN] at hs ⊢
    obtain ⟨hx1, hx2, hM2, hrd⟩ := h.number (.int .i64 (s64 (beN (bs.take 1)))) 2 0 1 0 8 (.inl rfl) hs.1 (by rw [hN, s64_small (by omega)]; omega) (by rw [hN, s64_small (by omega)]; omega)
    have KN := Lib.hid hrd
    have hst := h.boxed (.int .i64 0) (.int .i64 (s64 (beN (bs.take 1)))) 2 1 hs.1
    have hx := hx1 (.int .i64 (s64 (beN (bs.take 1)))) (.slice (cutA A c 1) (bs.length - 1) (c - 1))
    obtain ⟨w2, hw2⟩ : ∃ w2, (((w.alloc (.cells #[.int .i64 0] 2)).setCell ⟨w.heap.size, 0, none⟩ (.int .i64 (s64 (beN (bs.take 1))))).setCell ⟨P, 0, none⟩ (.slice (cutA A c 1) (bs.length - 1) (c - 1))) = w2 := ⟨_, rfl⟩
    rw [hw2] at hst hx hM2
    rw [hN, s64_small (by omega)] at hx
    obtain ⟨V, hVs, hV0, hmk⟩ := make_longs N hs.2
    have HW2 := Lib.hid hw2
    have HO := Lib.hid ho
    have H := Lib.hid h
    have HS := Lib.hid hst
    have HN := Lib.hid (And.intro hN hs)
    have HV := Lib.hid (And.intro hVs hV0)
    have hp1 : w2.cell? ⟨P, 1, none⟩ = some (.bool true) := (hst.pen.cell 1).trans rfl
    have hm0 : w2.cell? ⟨M, o, none⟩ = some (.slice none 0 0) := (hM2.cell o).trans ho
    have hmz := hM2.frozen o
    have hXM : M ≠ w.heap.size := Nat.ne_of_lt h.msg.lt
    have hsz : w.heap.size + 1 = w2.heap.size := by rw [← hw2]; simp
    have HXM := Lib.hid (And.intro hXM hsz)
    clear hx1 hx2 hM2 hrd hst hN hVs hV0 h ho hs hw2 hX hXM hsz
    go_enter Try.func70, Try.ntmps70
    go_wp2_with fail
    refine KN.out.mono ?_
    rintro e w3 ⟨rfl, hw3⟩
    rw [HW2.out] at hw3
    subst hw3
    have hG : w3.heap.size = w3.heap.size := rfl
    have bM := HS.out.msg
    have bP := HS.out.pen
    have n0 : (w3.alloc (.cells V 2)).cell? ⟨M, o, none⟩ = some (.slice none 0 0) := ((bM.alloc _).cell o).trans HO.out
    have nz : (w3.alloc (.cells V 2)).frozen? ⟨M, o, none⟩ = false := (bM.alloc _).frozen o
    obtain ⟨ho1, _⟩ := Array.getElem?_eq_some_iff.1 HO.out
    have n1 : ((w3.alloc (.cells V 2)).setCell ⟨M, o, none⟩ (.slice (some ⟨w3.heap.size, 0, none⟩) N N)).cell? ⟨M, o, none⟩ = some (.slice (some ⟨w3.heap.size, 0, none⟩) N N) := (((bM.alloc _).set_ o _).cell o).trans (by simp [ho1])
    have bG : Blk ((w3.alloc (.cells V 2)).setCell ⟨M, o, none⟩ (.slice (some ⟨w3.heap.size, 0, none⟩) N N)) w3.heap.size 2 V := (Blk.last w3 _ _ rfl).far (p := ⟨M, o, none⟩) (Nat.ne_of_gt bM.lt) _
    have bM5 := (bM.alloc (.cells V 2)).set_ o (.slice (some ⟨w3.heap.size, 0, none⟩) N N)
    have hst5 : RdSt ((w3.alloc (.cells V 2)).setCell ⟨M, o, none⟩ (.slice (some ⟨w3.heap.size, 0, none⟩) N N)) ((w3.alloc (.cells V 2)).setCell ⟨M, o, none⟩ (.slice (some ⟨w3.heap.size, 0, none⟩) N N)) P w3.heap.size 2 (cutA A c 1) (c - 1) (bs.drop 1) V := by
      refine ⟨(bP.alloc _).far (p := ⟨M, o, none⟩) HS.out.ne.symm _, bG, ?_, HS.out.cap, fun a ha => ?_, Nat.ne_of_gt bP.lt, Chg.refl _ _⟩
      · refine (HS.out.txt.below ((Below.refl _ w3).alloc (Nat.le_refl _) _) (Nat.le_refl _)).far (p := ⟨M, o, none⟩) _ fun b x e => ?_
        exact (HS.out.ap _ e).2.1
      · have h1 := HS.out.ap a ha
        have h2 := HS.out.chg.size
        refine ⟨h1.1, by omega, ?_⟩
        simp; omega
    have hc5 : Chg (fun i => i = P ∨ i = M) w0 ((w3.alloc (.cells V 2)).setCell ⟨M, o, none⟩ (.slice (some ⟨w3.heap.size, 0, none⟩) N N)) := (HS.out.chg.alloc _).setCell (.inl (.inr rfl)) _
    obtain ⟨w5, hw5⟩ : ∃ w5, (w3.alloc (.cells V 2)).setCell ⟨M, o, none⟩ (.slice (some ⟨w3.heap.size, 0, none⟩) N N) = w5 := ⟨_, rfl⟩
    have HW5 := Lib.hid hw5
    rw [hw5] at n1 bG bM5 hst5 hc5
    have HN5 := Lib.hid (And.intro n1 bG)
    have HM5 := Lib.hid bM5
    have HS5 := Lib.hid hst5
    have HC5 := Lib.hid hc5
    have HAP := Lib.hid HS.out.ap
    have hGM : w3.heap.size ≠ M := Nat.ne_of_gt bM.lt
    have hGP : w3.heap.size ≠ P := Nat.ne_of_gt bP.lt
    have HG := Lib.hid (And.intro hGM (And.intro hGP HS.out.ne))
    have HGw0 := Lib.hid HS.out.chg.size
    have n1' := n1
    rw [← hw5] at n1'
    clear hG bM bP hw5 bG bM5 hst5 hc5 hGM hGP
    go_wp2_with fail
    rw [HW5.out]
    go_loopw [24] (fun y wr => ∃ i : Nat, i ≤ N ∧ y = .int .i64 (i : Int) ∧ 1 + 8 * i ≤ bs.length ∧ ∃ A' c' vals, RdSt w5 wr P w3.heap.size 2 A' c' (bs.drop (1 + 8 * i)) vals ∧ (∀ a, A' = some a → a.block ≠ P ∧ a.block ≠ M ∧ a.block < w0.heap.size) ∧ vals.size = N ∧ ∀ j, j < N → vals[j]? = some (.int .i64 (if j < i then s64 (beN (((bs.drop 1).drop (8 * j)).take 8)) else 0))) (fun y _ => N - (intOf y).toNat)
    case atStart => exact ⟨0, Nat.zero_le _, rfl, by have := HN.out.2.1; omega, _, _, V, HS5.out, HAP.out, HV.out.1, fun j hj => by rw [if_neg (by omega)]; exact HV.out.2 j hj⟩
    case round =>
      as_aux_lemma =>
        obtain ⟨i, hi, rfl, hlen, A', c', vals, hst, hap, hvs, hv⟩ := hrel
        have m0 : wr.cell? ⟨M, o, none⟩ = some (.slice (some ⟨w3.heap.size, 0, none⟩) N N) := (((HM5.out.chg hst.chg (fun q => q.elim (fun e => HG.out.2.2 e) (fun e => HG.out.1 e.symm))).cell o)).trans (by simp [ho1])
        clear n1 n1' n0 nz hm0 hmz hp1 hx
        by_cases hlt : i < N
        · have i1 : (i : Int) < (N : Int) := by omega
          have hvi := hv i hlt
          rw [if_neg (by omega)] at hvi
          by_cases hk : 8 ≤ (bs.drop (1 + 8 * i)).length
          · have K := Lib.hid (long_cut w5 wr P w3.heap.size 2 A' c' (bs.drop (1 + 8 * i)) vals i 0 hst hvi hk)
            have HV' := Lib.hid (And.intro hvs hv)
            have HP' := Lib.hid hap
            have HK := Lib.hid hk
            have HL := Lib.hid hlen
            have hi9 : i < 8 := by have := HN.out.2.2; omega
            clear hst hvi hv hvs hap hk hlen
            go_wp2_with fail
            refine K.out.mono ?_
            rintro e w6 ⟨rfl, h6⟩
            have H6 := Lib.hid h6
            clear h6
            go_wp2_with fail
            have hk := HK.out
            simp at hk
            refine ⟨⟨i + 1, hlt, by go_num, by omega, _, _, _, by have := H6.out; rw [List.drop_drop] at this; simpa [Nat.mul_add, Nat.add_assoc] using this, fun a ha => ?_, by simp [HV'.out.1], fun j hj => ?_⟩, by simp [intOf]; omega⟩
            · obtain ⟨a0, e0, e1⟩ := cutA_block ha
              rw [e1]; exact HP'.out a0 e0
            · rw [Array.getElem?_setIfInBounds]
              by_cases hji : i = j
              · subst hji
                rw [if_pos rfl, if_pos (by rw [HV'.out.1]; exact hlt), if_pos (by omega), List.drop_drop]
              · rw [if_neg hji, HV'.out.2 j hj]
                by_cases h1 : j < i
                · rw [if_pos h1, if_pos (by omega)]
                · rw [if_neg h1, if_neg (by omega)]
          · have K := long_any w5 wr P w3.heap.size 2 A' c' (bs.drop (1 + 8 * i)) vals i 0 hst hvi
            rw [if_neg hk] at K
            have K := Lib.hid K
            have HK := Lib.hid hk
            clear hst hvi hv hvs hap hk hlen
            go_wp2_with fail
            refine K.out.mono ?_
            rintro e w6 ⟨rfl, h6⟩
            have hk := HK.out
            simp at hk
            exact ⟨rfl, .inr ⟨fun q => by omega, rfl, HC5.out.trans h6 (fun k hk q => q.elim .inl (fun e => absurd hk (by rw [e]; have := HGw0.out; omega)))⟩⟩
        · obtain rfl : i = N := by omega
          have i1 : ¬ (i : Int) < (i : Int) := by omega
          have HST := Lib.hid hst
          have HV' := Lib.hid (And.intro hvs hv)
          have HP' := Lib.hid hap
          have HL := Lib.hid hlen
          clear hst hv hvs hap hlen
          go_wp2_with fail
          go_end0
          refine .inl ⟨⟨HN.out.2.1, HN.out.2.2, HL.out⟩, rfl, A', c', w3.heap.size, ⟨HST.out.pen, ?_, HST.out.txt, HST.out.cap, HP'.out, HG.out.2.2, ?_⟩, ?_, by have := HXM.out; omega⟩
          · exact HM5.out.chg HST.out.chg (fun q => q.elim (fun e => HG.out.2.2 e) (fun e => HG.out.1 e.symm))
          · exact HC5.out.trans HST.out.chg (fun k hk q => q.elim .inl (fun e => absurd hk (by rw [e]; have := HGw0.out; omega)))
          · refine .inr ⟨w3.heap.size, 0, rfl, fun j u hu => ?_⟩
            have hj : j < i := by
              have := (List.getElem?_eq_some_iff.1 hu).1
              simpa [nums] using this
            show wr.cell? ⟨w3.heap.size, 0 + j, none⟩ = some u
            rw [Nat.zero_add, HST.out.msg.cell j, HV'.out.2 j hj, if_pos hj, ← hu]
            simp [nums, hj]
  · have KN := Lib.hid (show Calls Try.prog 79 #[.pointer (some ⟨P, 0, none⟩), .pointer (some ⟨w.heap.size, 0, none⟩), .int .i64 1, .int .i64 0, .int .i64 8] (w.alloc (.cells #[.int .i64 0] 2)) fun e w' => e = .panicked boom ∧ Chg (fun i => i = P ∨ i = w.heap.size) (w.alloc (.cells #[.int .i64 0] 2)) w' by
      by_cases hl : 1 ≤ bs.length
      · have hV := beN_take_lt bs 1
        exact number_out (w.alloc (.cells #[.int .i64 0] 2)) P w.heap.size 0 0 A bs.length c bs 1 0 8 (h.pen.alloc _) (h.txt.below ((Below.refl _ w).alloc (Nat.le_refl _) _) (Nat.le_refl _)) rfl h.cap ((hX.cell 0).trans rfl) (hX.frozen 0) (Nat.ne_of_gt h.pen.lt) (fun a ha => ⟨(h.ap a ha).1, Nat.ne_of_lt (h.lt ha)⟩) (by omega) hl (by rw [s64_small (by omega)]; omega) (by rw [s64_small (by omega)]; intro q; exact hs ⟨hl, by omega⟩)
      · exact (number_short (w.alloc (.cells #[.int .i64 0] 2)) P w.heap.size 0 A bs.length c 1 0 8 (h.pen.alloc _) (by omega)).mono fun e w' ⟨h1, h2⟩ => ⟨h1, by rw [h2]; exact Chg.refl _ _⟩)
    have HC := Lib.hid (h.chg.alloc (.cells #[.int .i64 0] 2))
    have HSZ := Lib.hid h.chg.size
    have HK := Lib.hid hs
    clear h ho hX hs
    go_enter Try.func70, Try.ntmps70
    go_wp2_with fail
    refine KN.out.mono ?_
    rintro e w2 ⟨rfl, hc⟩
    refine ⟨rfl, .inr ⟨fun q => HK.out ⟨q.1, q.2.1⟩, rfl, HC.out.trans hc fun i hi hq => ?_⟩⟩
    rcases hq with q | q
    · exact .inl q
    · have := HSZ.out; omega
end Go.Proofs.Ytnbcjjgilndlaaa
