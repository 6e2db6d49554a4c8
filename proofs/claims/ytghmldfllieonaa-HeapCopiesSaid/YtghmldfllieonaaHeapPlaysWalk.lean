/- A heap plays as the document's: the walk of the law. Helper. -/
import Derived.Test.YtghmldfllieonaaHpC
namespace Go.Proofs.Ytghmldfllieonaa
open Go.RowKit
set_option linter.unusedVariables false
set_option linter.unusedSimpArgs false
set_option maxRecDepth 100000
set_option maxHeartbeats 6400000
theorem plays_out (w : World) (A1 : Option Addr) (n1 c1 : Nat) (h1 : 80 < n1) : Calls Try.prog 5 #[.slice A1 n1 c1] w fun e w' => e = .returned (.bool true) ∧ Nw w w' := by
  have KK := Lib.hid (known_any w)
  have i1 : (80 : Int) < (n1 : Int) := by omega
  clear h1
  go_enter Try.func5, Try.ntmps5
  go_wp2_with fail
  refine KK.out.mono ?_
  rintro e w1 ⟨rfl, h1⟩
  go_wp2_with fail
  go_ret
  exact ⟨rfl, h1⟩
theorem plays_in (w : World) (A1 : Option Addr) (c1 : Nat) (zs : List (List Int)) (n1 : Nat) (hn : zs.length = n1) (h1 : n1 ≤ 80) (hr : Rows w A1 9 zs) (hw : ∀ r ∈ zs, ∀ z ∈ r, (Lit.int .i64 z).wf = true) : Calls Try.prog 5 #[.slice A1 n1 c1] w fun e w' => e = .returned (.bool true) ∧ Nw w w' := by
  have KN := Lib.hid (new_in (UL []) w w (Nw.refl w) (fun k h => by simp [UL] at h))
  have KK := Lib.hid (fun W => known_any W)
  have g1 : ¬ (80 : Int) < (n1 : Int) := by omega
  have HI := Lib.hid (show zs.length = n1 ∧ n1 ≤ 80 from ⟨hn, h1⟩)
  have HR := Lib.hid (fun k (hk : k < n1) => act_at hr hw (k := k) (by omega))
  clear hn hr hw
  go_enter Try.func5, Try.ntmps5
  go_wp2_with fail
  refine KN.out.mono ?_
  rintro e wa ⟨gB, rfl, _, ha, _⟩
  obtain ⟨gR, hgR⟩ : ∃ gR, wa.heap.size = gR := ⟨_, rfl⟩
  obtain ⟨w1, hw1⟩ : ∃ w1, wa.alloc (.cells #[.slice none 0 0] 28) = w1 := ⟨_, rfl⟩
  have hB1 : BothH w w1 gB gR [] := by
    refine ⟨none, ha.grow (w' := w1) (by rw [← hw1]; exact (Below.refl _ wa).alloc (Nat.le_refl _) _) (fun k hk => ?_) (fun k hk => ?_), ⟨none, 0, by rw [← hw1]; exact Blk.last wa _ _ hgR, Own.nil _ _ _⟩, by rw [← hgR]; exact ha.nw.size, fun g hg => (by cases hg), List.Pairwise.nil⟩
    · rcases hk with rfl | hk
      · exact .inr (by omega)
      · cases hk
    · rcases hk with rfl | hk
      · rw [← hw1]; simp; omega
      · cases hk
  have HB1 := Lib.hid hB1
  have HX := Lib.hid (And.intro hgR hw1)
  clear hB1 hgR hw1 ha
  go_upto_region 4 with (fail)
  rw [HX.out.2, HX.out.1]
  go_wp2_with fail
  go_loopw [5] (fun i wr => ∃ (k : Nat) (L : List It), k ≤ n1 ∧ L.length ≤ k ∧ i = .int .i64 (k : Int) ∧ Hid (BothH w wr gB gR L)) (fun i _ => n1 - (intOf i).toNat)
  case atStart => exact ⟨0, [], by omega, by simp, rfl, HB1⟩
  case round =>
    clear HB1
    obtain ⟨k, L, hk, hLk, rfl, HB⟩ := hrel
    by_cases hlt : k < n1
    · as_aux_lemma =>
        have ik : (k : Int) < (n1 : Int) := by omega
        obtain ⟨b, off, rfl, K, x, n, hx, hc⟩ := HR.out k hlt
        obtain ⟨z0, z1, z2, z3, z4, z5, z6, z7, z8⟩ := hc wr HB.out.nw
        have KD := Lib.hid (do_any w wr gB gR L K x n HB.out hx (by have := HI.out; omega))
        have KS := Lib.hid (fun W L' (h : BothH w W gB gR L') (hl : L'.length ≤ k + 1) => same_any w W gB gR L' h (by have := HI.out; omega))
        have HLK := Lib.hid hLk
        clear hx hc hLk
        go_wp2_with fail
        refine KD.out.mono ?_
        rintro r w2 ⟨rfl, L', hL', h2⟩
        have H2 := Lib.hid h2
        have HL' := Lib.hid hL'
        clear h2 hL' z0 z1 z2 z3 z4 z5 z6 z7 z8
        go_wp2_with fail
        refine (KS.out w2 L' H2.out (by have := HL'.out; have := HLK.out; omega)).mono ?_
        rintro r w3 ⟨rfl, h3⟩
        have H3 := Lib.hid h3
        clear h3
        go_wp2_with fail
        go_roundw
        case rel => exact ⟨k + 1, L', by omega, by have := HL'.out; have := HLK.out; omega, by go_num, H3⟩
        case measure => simp [intOf]; omega
    · obtain rfl : k = n1 := by omega
      have ik : ¬ (k : Int) < (k : Int) := by omega
      go_wp2_with fail
      refine (KK.out _).mono ?_
      rintro r w3 ⟨rfl, h3⟩
      have H3 := Lib.hid (HB.out.nw.step h3)
      clear h3
      go_wp2_with fail
      go_ret
      exact ⟨rfl, H3.out⟩
end Go.Proofs.Ytghmldfllieonaa
