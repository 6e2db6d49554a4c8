/- Frames: known: the chapter's row. Helper. -/
import Derived.Test.YtalcafaibmbgjaaDoorFrmTell
import Derived.BigQuiet
namespace Go.Proofs.YtalcafaibmbgjaaDoor
open Go.RowKit
set_option linter.unusedVariables false
set_option linter.unusedSimpArgs false
set_option maxRecDepth 100000
set_option maxHeartbeats 6400000
theorem refEnc_own (w : World) (A : Option Addr) (n c : Nat) (l : List UInt8) (hb : BytesAt w A l) (hn : l.length = n) (h1 : 1 ≤ n) (h2 : n ≤ 4096) :
    Calls Tryd.prog 14 #[.slice A n c] w fun e w' => ∃ A' c' blk, e = .returned (.tuple #[.slice A' (6 + n) c', .int .i64 0]) ∧ Own w' 5 1 (.slice A' (6 + n) c') (6 + n) (bcells (frameB l)) blk ∧ (∀ g, blk = some g → w.heap.size ≤ g) ∧ Nw w w' := by
  have KS := Lib.hid (by have h := refSum_any A l c w hb (by omega); rw [hn] at h; exact h)
  obtain ⟨C, hC⟩ : ∃ C, crcMore 0#32 l = C := ⟨_, rfl⟩
  rw [hC] at KS
  obtain ⟨s, hs⟩ : ∃ s : Nat, C.toNat = s := ⟨_, rfl⟩
  rw [hs] at KS
  have hs2 : s < 4294967296 := by rw [← hs]; exact C.isLt
  have HH := Lib.hid (And.intro hn (And.intro hC hs))
  have HB := Lib.hid hb
  have g1 : ((n : Int) == 0) = false := by simp; omega
  have g2 : ¬ (4096 : Int) < (n : Int) := by omega
  clear hb hn hC hs
  go_enter Tryd.func14, Tryd.ntmps14
  go_upto_region 3 with (fail)
  go_wp2_with fail
  refine KS.out.mono ?_
  rintro e w1 ⟨rfl, rfl⟩
  have N1 := Lib.hid (Nw.refl w)
  have hcells := headB_cells n C h2
  rw [HH.out.2.2] at hcells
  have hown := own6 w (headB n C) _ rfl hcells
  obtain ⟨i0, hi0, hz0, hz1, hz2⟩ := info_parts infoU8f
  have HL1 := Lib.hid hi0
  have HL2 := Lib.hid hz0
  have HL3 := Lib.hid hz1
  have HL4 := Lib.hid hz2
  have HO := Lib.hid hown
  clear hi0 hz0 hz1 hz2 hown hcells
  go_upto_region 5 with (fail)
  obtain ⟨w2, hw2⟩ : ∃ W, w.alloc (.cells #[.int .u8 ((n : Int) / 256), .int .u8 ((n : Int) % 256), .int .u8 ((s : Int) / 16777216), .int .u8 ((s : Int) / 65536 % 256), .int .u8 ((s : Int) / 256 % 256), .int .u8 ((s : Int) % 256)] 5) = W := ⟨_, rfl⟩
  rw [hw2]
  have n2 : Nw w w2 := by rw [← hw2]; exact Nw.alloc N1.out _
  have HO2 := Lib.hid (show Own w2 5 1 (.slice (some ⟨w.heap.size, 0, none⟩) 6 6) 6 (bcells (headB n C)) (some w.heap.size) by rw [← hw2]; exact HO.out)
  have HB2 := Lib.hid (show Rd w2 A (bcells l) from HB.out.below n2 (Nat.le_refl _))
  have N2 := Lib.hid n2
  clear hw2 n2
  go_wp2_with (at_builtin; refine wpList_append_at w2 rfl _ _ _ rfl 5 i0 _ 1 1 Tryd.underlying22 HL1.out HL2.out HL3.out HL4.out rfl (by omega) _ 6 (bcells (headB n C)) (some w.heap.size) rfl HO2.out _ n c (bcells l) rfl (by rw [bcells_length, HH.out.1]; omega) HB2.out (bcells_one _) (by simp only [maxLen]; omega) (by omega) ?_; intro A1 c1 w3 blk1 hown hchg hat; have HO3 := Lib.hid hown; have HC3 := Lib.hid hchg; have HT3 := Lib.hid hat; clear hown hchg hat)
  go_ret2
  have e : bcells (frameB l) = bcells (headB n C) ++ bcells l := by rw [frameB, HH.out.1, HH.out.2.1]; simp [bcells]
  refine ⟨_, _, blk1, rfl, by rw [e]; exact HO3.out, fun g hg => ?_, Below.trans N2.out (HC3.out.below (fun i _ q => by injection q with q; have := N1.out.size; omega) N2.out.size)⟩
  rcases HT3.out with h | h
  · rw [h] at hg; injection hg with hg; have := N1.out.size; omega
  · rw [h] at hg; injection hg with hg; have := N2.out.size; omega
theorem size_any (w : World) : Calls Tryd.prog 16 #[.int .i64 1] w fun e w' => e = .returned (.int .i64 7) ∧ w' = w := by
  go_enter Tryd.func16, Tryd.ntmps16
  go_wp2_with fail
  go_ret
  exact ⟨rfl, rfl⟩
/-- The chapter's frame, and what stands behind it. -/
def kF : List UInt8 := frameB [97]
theorem kF_len : kF.length = 7 := by rw [kF, frameB_length]; rfl
theorem kF_n (r : List UInt8) : frN (kF ++ r) 0 = 1 := by
  unfold frN kF frameB headB
  simp
theorem kF_p (r : List UInt8) : frP (kF ++ r) 0 = [97] := by
  unfold frP
  rw [kF_n]
  unfold kF frameB headB
  simp
theorem kF_t (r : List UInt8) : frameB (frP (kF ++ r) 0) = (kF ++ r).take (6 + frN (kF ++ r) 0) := by
  rw [kF_n, kF_p]
  exact (List.take_left' kF_len).symm
theorem kF_d (r : List UInt8) : (kF ++ r).drop (6 + 1) = r := List.drop_left' kF_len
attribute [irreducible] kF
theorem known_any (w : World) (hE : ErrT w) : Calls Tryd.prog 5 #[] w fun e w' => e = .returned (.bool true) ∧ Nw w w' := by
  have HE := Lib.hid hE
  have HEP := Lib.hid hE.pos
  obtain ⟨i0, hi0, hz0, hz1, hz2⟩ := info_parts infoU8f
  have HL1 := Lib.hid hi0
  have HL2 := Lib.hid hz0
  have HL3 := Lib.hid hz1
  have HL4 := Lib.hid hz2
  clear hE hi0 hz0 hz1 hz2
  have kc := fun (w : World) (C : Array Value) (n c : Nat) => Lib.run_convert_bytes_const (P := Tryd.prog) w 22 5 C n c Tryd.underlying22 Tryd.underlying5
  go_enter Tryd.func5, Tryd.ntmps5
  go_wp2_with fail
  refine (decNew_any w).mono ?_
  rintro e w1 ⟨rfl, d1, n1⟩
  have F1 := Lib.hid (And.intro d1 n1)
  clear d1 n1
  go_wp2_with fail
  refine (refEnc_own (w1.alloc (.cells #[.int .u8 97] 5 (1, 2))) (some ⟨w1.heap.size, 0, none⟩) 1 1 [97] (bytesAt_new w1 [97] 5 (1, 2)) rfl (by omega) (by omega)).mono ?_
  rintro e w2 ⟨A2, c2, blk2, rfl, o2, g2, n2⟩
  rw [show frameB [97] = kF by with_unfolding_all rfl] at o2
  have F2 := Lib.hid (And.intro o2 (And.intro g2 (show Nw w1 w2 from ((Nw.refl w1).alloc _).step n2)))
  clear o2 g2 n2
  go_upto_region 3 with (fail)
  go_wp2_with (at_builtin; refine wpList_append_at (w2.alloc (.cells #[.int .u8 0, .int .u8 0] 5)) rfl _ _ _ rfl 5 i0 _ 1 1 Tryd.underlying22 HL1.out HL2.out HL3.out HL4.out rfl (by omega) _ (6 + 1) (bcells kF) blk2 rfl (F2.out.1.kept fun g hg => Below.heap_alloc _ _ _ (F2.out.1.lt g hg)) _ 2 2 (bcells [0, 0]) rfl rfl (bytesAt_new w2 [0, 0] 5 (0, 0)) (bcells_one _) (by simp only [maxLen]; omega) (by omega) ?_; intro A3 c3 w3 blk3 hown hchg hat; have HO3 := Lib.hid hown; have HC3 := Lib.hid hchg; clear hown hchg hat)
  have ch3 : Chg (fun k => some k = blk2) w2 w3 := ((Chg.refl (fun k => some k = blk2) w2).alloc _).trans HC3.out fun _ _ h => h
  have n3 : Nw w1 w3 := F2.out.2.2.trans (ch3.below (fun k _ hk => by have := F2.out.2.1 k hk.symm; simp at this; omega) F2.out.2.2.size)
  have rd3 := (own_rdA HO3.out).1
  rw [show bcells kF ++ bcells [0, 0] = bcells (kF ++ [0, 0]) by simp [bcells]] at rd3
  have d3 := F1.out.1.nw n3
  have HE3 := Lib.hid (HE.out.nw (F1.out.2.trans (n3.mono F1.out.2.size)))
  have N3 := Lib.hid (show Nw w w3 from F1.out.2.trans (n3.mono F1.out.2.size))
  have KP := Lib.hid (decPush_any w3 w.heap.size [] 0 none 0 .nilIface none d3 A3 9 c3 (kF ++ [0, 0]) rd3 (by rw [List.length_append, kF_len]; rfl) (by simp))
  clear ch3 n3 rd3 d3
  refine KP.out.mono ?_
  rintro e w4 ⟨rfl, A4, c4, blk4, d4, ch4, hb4⟩
  rw [List.nil_append] at d4
  have hD0 : 0 ≠ w.heap.size := by have := HEP.out; omega
  have KN := Lib.hid (decNext_ok w4 _ _ _ _ _ _ _ d4 (by rw [kF_n]; omega) (by rw [kF_n, List.length_append, kF_len]; simp) (by rw [List.length_append, kF_len]; simp) (by omega) (kF_t _))
  rw [kF_n, kF_p, kF_d] at KN
  have F4 := Lib.hid (And.intro ch4 hb4)
  have N4 := Lib.hid (show Nw w w4 from N3.out.trans (ch4.below (B := w.heap.size) (fun k _ hk => by rcases hk with hk | hk; { exact Nat.le_of_eq hk.symm }; { cases hk }) N3.out.size))
  have hM5 : ∀ k, decM w.heap.size blk4 k → w.heap.size ≤ k ∧ k < w4.heap.size := by
    intro k hk
    rcases hk with hk | hk
    · exact ⟨by omega, by rw [hk]; exact d4.b.lt⟩
    · refine ⟨?_, d4.o.lt k hk.symm⟩
      rcases hb4 with h | h
      · rw [h] at hk; cases hk
      · rw [h] at hk; injection hk with hk; have := N3.out.size; omega
  have HM5 := Lib.hid hM5
  clear d4 ch4 hb4 hM5
  go_upto_region 4 with (fail)
  go_wp2_with fail
  refine KN.out.mono ?_
  rintro e w5 ⟨g5, o5, c5, rfl, hb5, hg5, hc5, ch5, A6, c6, blk6, d6, hb6⟩
  have N5 := Lib.hid (show Nw w w5 from N4.out.trans (ch5.below (B := w.heap.size) (fun k _ hk => (HM5.out k hk).1) N4.out.size))
  have KB := Lib.hid (decNext_bad w5 (HE.out.nw N5.out) w.heap.size [0, 0] _ _ _ _ _ d6 hD0 10 (by decide) ((decLook_len w5 _ _ _ _ _ _ _ d6 (by simp) (.inl (by decide)) (by simp)).mono fun e w' ⟨h1, h2, h3⟩ => ⟨_, Nat.le_refl _, h1, h2, h3⟩))
  have F5 := Lib.hid (And.intro hb5 (And.intro hg5 hb6))
  clear hb5 hg5 hc5 ch5 d6 hb6
  go_upto_region 5 with (fail)
  go_wp2_with fail
  refine KB.out.mono ?_
  rintro e w6 ⟨rfl, ch6, _⟩
  have hM6 : ∀ k, decM w.heap.size blk6 k → w.heap.size ≤ k ∧ k < w4.heap.size := by
    intro k hk
    refine HM5.out k ?_
    rcases hk with hk | hk
    · exact .inl hk
    · rcases F5.out.2.2 with h | h
      · exact .inr (by rw [← h]; exact hk)
      · rw [h] at hk; cases hk
  have N6 := Lib.hid (show Nw w w6 from N5.out.trans (ch6.below (B := w.heap.size) (fun k _ hk => (hM6 k hk).1) N5.out.size))
  have hb6 : BytesAt w6 (some ⟨g5, o5, none⟩) [97] := by
    have hone : Txs w5 w4.heap.size [(g5, o5, 1, [97])] := fun e he => by
      obtain rfl := List.mem_singleton.1 he
      obtain ⟨b, o, e1, hlt, _⟩ := BytesAt.get F5.out.1 (k := 0) (by simp)
      injection e1 with e1; injection e1 with e1 e2; subst e1 e2
      exact ⟨F5.out.1, F5.out.2.1, hlt, by simp⟩
    exact (hone.chg ch6 (fun e he hm => by obtain rfl := List.mem_singleton.1 he; have := (hM6 _ hm).2; have h2 : w4.heap.size ≤ g5 := F5.out.2.1; exact absurd (Nat.lt_of_lt_of_le this h2) (Nat.lt_irrefl _)) (g5, o5, 1, [97]) (by simp)).1
  have hst := BytesAt.str (P := Tryd.prog) hb6 22 5 9 c5 Tryd.underlying22 Tryd.underlying5 Tryd.underlying9
  rw [show [(97 : UInt8)].length = 1 from rfl] at hst
  clear ch6 hM6 hb6
  go_wp2_with (go_at_call 16; refine (size_any _).mono ?_; rintro e w7 ⟨rfl, rfl⟩)
  go_ret
  exact ⟨rfl, N6.out⟩
end Go.Proofs.YtalcafaibmbgjaaDoor
