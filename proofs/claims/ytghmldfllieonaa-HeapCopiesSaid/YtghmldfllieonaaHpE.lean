/- A heap's copy goes on apart: the walk of the law. Helper. -/
import Derived.Test.YtghmldfllieonaaHpD
import Derived.Test.YtghmldfllieonaaHeapSame
import Derived.Test.YtghmldfllieonaaHpC
namespace Go.Proofs.Ytghmldfllieonaa
open Go.RowKit
set_option linter.unusedVariables false
set_option linter.unusedSimpArgs false
theorem srt_sub {L M : List It} (hL : Srt L) (hM : Srt M) (h : ∀ x ∈ L, x ∈ M) : L.Sublist M := by
  induction M generalizing L with
  | nil =>
    cases L with
    | nil => exact .slnil
    | cons a r => exact absurd (h a (by simp)) (by simp)
  | cons b M' ih =>
    have hM2 := List.pairwise_cons.1 hM
    cases L with
    | nil => exact List.nil_sublist _
    | cons a L' =>
      have hL2 := List.pairwise_cons.1 hL
      rcases List.mem_cons.1 (h a (by simp)) with e | ha
      · subst e
        refine List.Sublist.cons_cons a (ih hL2.2 hM2.2 fun x hx => ?_)
        rcases List.mem_cons.1 (h x (List.mem_cons_of_mem _ hx)) with e | h'
        · have := hL2.1 x hx
          rw [e, It.less_irrefl] at this; cases this
        · exact h'
      · refine List.Sublist.cons b (ih hL hM2.2 fun x hx => ?_)
        rcases List.mem_cons.1 (h x hx) with e | h'
        · subst e
          have h1 := hM2.1 a ha
          rcases List.mem_cons.1 hx with e | hx'
          · rw [e, It.less_irrefl] at h1; cases h1
          · have h2 := hL2.1 x hx'
            rw [It.less_asymm h1] at h2; cases h2
        · exact h'
theorem srt_same {l m L M : List It} (hp : l.Perm L) (hq : m.Perm M) (hL : Srt L) (hM : Srt M) : ((∀ x ∈ l, x ∈ m) ∧ l.length = m.length) ↔ L = M := by
  constructor
  · rintro ⟨h1, h2⟩
    refine (srt_sub hL hM fun x hx => hq.mem_iff.1 (h1 x (hp.mem_iff.2 hx))).eq_of_length ?_
    rw [← hp.length_eq, ← hq.length_eq, h2]
  · rintro rfl
    exact ⟨fun x hx => hq.mem_iff.2 (hp.mem_iff.1 hx), by rw [hp.length_eq, hq.length_eq]⟩
/-- Ours is copied, the document's not yet. -/
def CopyMid (w W : World) (gB gR : Nat) (L : List It) (hB : Nat) : Prop :=
  ∃ B C : Nat → Prop, (∀ k, B k → ¬ C k) ∧ HeldH B w W gB gR L ∧ ∃ S v f bk l, l.Perm L ∧ HpS W hB S v l f bk ∧ (∀ k, HTurn hB S bk k → w.heap.size ≤ k ∧ C k) ∧ ∀ k, C k → k < W.heap.size
theorem copy_mine (w W : World) (gB gR : Nat) (L : List It) (h : BothH w W gB gR L) (hl : L.length ≤ 100000) : Calls Try.prog 21 #[.pointer (some ⟨gB, 0, none⟩)] W fun r w' => ∃ hB, r = .returned (.pointer (some ⟨hB, 0, none⟩)) ∧ CopyMid w w' gB gR L hB := by
  obtain ⟨blk, ⟨S, v, f, bk, l, hp, hh, ht, hu, hn⟩, hr, h1, h2, hs⟩ := h
  refine (copy_any W gB S v l f bk hh (by rw [hp.length_eq]; exact hl)).mono fun r w' ⟨hB, S', v', blk', hr', hh', hT, hBl⟩ => ?_
  have hsz := hBl.size
  refine ⟨hB, hr', fun k => HTurn gB S bk k ∨ RU gR blk k, fun k => HTurn hB S' blk' k, ?_, ⟨S, v, f, bk, l, blk, hp, hh.new hBl, hr.new hBl, fun k hk => ⟨(ht k hk).1, .inl hk, (ht k hk).2⟩, fun k hk => ⟨?_, .inr hk⟩, ?_, hn.step hBl, hs⟩, S', v', f, blk', l, hp, hh', fun k hk => ⟨Nat.le_trans hn.size (hT k hk), hk⟩, hh'.lt⟩
  · rintro k (hk | hk) hc
    · have := hh.lt k hk; have := hT k hc; omega
    · have := hu k hk; have := hT k hc; omega
  · rcases hk with rfl | hk
    · exact h1
    · exact h2 k hk.symm
  · rintro k (hk | hk)
    · exact Nat.lt_of_lt_of_le (hh.lt k hk) hsz
    · exact Nat.lt_of_lt_of_le (hu k hk) hsz
theorem copy_theirs (w W : World) (gB gR : Nat) (L : List It) (hB : Nat) (h : CopyMid w W gB gR L hB) (hl : L.length ≤ 100000) : Calls Try.prog 22 #[.pointer (some ⟨gR, 0, none⟩)] W fun r w' => ∃ hR, r = .returned (.pointer (some ⟨hR, 0, none⟩)) ∧ Two w w' gB gR L hB hR L := by
  obtain ⟨B, C, hd, hH, S2, v2, f2, bk2, l2, hp2, hh2, hT2, hC⟩ := h
  have hH0 := hH
  obtain ⟨S, v, f, bk, l, blk, hp, hh, hr, ht, hu, hb, hn, hs⟩ := hH
  refine (refCopy_any W gR L blk hr hl).mono fun r w' ⟨hR, blk', e, hr', hg, hg2, hBl⟩ => ?_
  have hsz := hBl.size
  have hns := hn.size
  have hru : ∀ k, RU hR blk' k → W.heap.size ≤ k := by
    rintro k (rfl | hk)
    · exact hg
    · exact hg2 k hk.symm
  refine ⟨hR, e, B, fun k => C k ∨ RU hR blk' k, ?_, hH0.keep (Chg.of_below hBl (Nat.le_refl _) _) (hn.step hBl), S2, v2, f2, bk2, l2, blk', hp2, hh2.new hBl, hr', fun k hk => ⟨(hT2 k hk).1, .inl (hT2 k hk).2, fun q => ?_⟩, fun k hk => ⟨Nat.le_trans hns (hru k hk), .inr hk⟩, ?_, hn.step hBl, hs⟩
  · rintro k hk (hc | hc)
    · exact hd k hk hc
    · have := hb k hk; have := hru k hc; omega
  · have := hC k (hT2 k hk).2; have := hru k q; omega
  · rintro k (hk | hk)
    · exact Nat.lt_of_lt_of_le (hC k hk) hsz
    · rcases hk with rfl | hk
      · exact hr'.lt.1
      · exact hr'.lt.2 k hk.symm
end Go.Proofs.Ytghmldfllieonaa
/- Same on two pairs. Helper. -/
namespace Go.Proofs.Ytghmldfllieonaa
open Go.RowKit
set_option linter.unusedVariables false
set_option linter.unusedSimpArgs false
set_option maxRecDepth 100000
set_option maxHeartbeats 6400000
theorem sameH_two (w W : World) (gB gR : Nat) (L : List It) (hB hR : Nat) (M : List It) (h : Two w W gB gR L hB hR M) (hl : L.length ≤ 1000) (hm : M.length ≤ 1000) : Calls Try.prog 23 #[.pointer (some ⟨gB, 0, none⟩), .pointer (some ⟨hB, 0, none⟩)] W fun r w' => r = .returned (.bool (decide (L = M))) ∧ Two w w' gB gR L hB hR M := by
  have h0 := h
  obtain ⟨B, C, hd, h1, h2⟩ := h0
  obtain ⟨S, v, f, bk, l, blk, hp, hh, hr, ht, hu, hb, hn, hs⟩ := h1
  obtain ⟨S2, v2, f2, bk2, l2, blk2, hp2, hh2, hr2, ht2, hu2, hb2, hn2, hs2⟩ := h2
  refine (sameH_any W gB S v l f bk hB S2 v2 l2 f2 bk2 hh hh2 (by rw [hp.length_eq]; omega) (by rw [hp2.length_eq]; omega)).mono fun r w' ⟨b, hr, hb, hn⟩ => ?_
  have e := hb.trans (srt_same hp hp2 hs hs2)
  refine ⟨?_, h.step hn⟩
  rw [hr]
  by_cases hLM : L = M
  · rw [e.2 hLM, decide_eq_true hLM]
  · rw [decide_eq_false hLM]
    cases b with
    | false => rfl
    | true => exact absurd (e.1 rfl) hLM
theorem sameH_two2 (w W : World) (gB gR : Nat) (L : List It) (hB hR : Nat) (M : List It) (h : Two w W gB gR L hB hR M) (hl : L.length ≤ 1000) (hm : M.length ≤ 1000) : Calls Try.prog 23 #[.pointer (some ⟨hB, 0, none⟩), .pointer (some ⟨gB, 0, none⟩)] W fun r w' => r = .returned (.bool (decide (L = M))) ∧ Two w w' gB gR L hB hR M := by
  refine (sameH_two w W hB hR M gB gR L h.symm hm hl).mono fun r w' ⟨hr, hb⟩ => ⟨?_, hb.symm⟩
  rw [hr]
  by_cases hLM : L = M
  · rw [decide_eq_true hLM, decide_eq_true hLM.symm]
  · rw [decide_eq_false hLM, decide_eq_false (fun e => hLM e.symm)]
theorem Two.bothL {w W : World} {gB gR hB hR : Nat} {L M : List It} (h : Two w W gB gR L hB hR M) : BothH w W gB gR L := by
  obtain ⟨B, C, hd, h1, h2⟩ := h; exact h1.both
theorem Two.bothM {w W : World} {gB gR hB hR : Nat} {L M : List It} (h : Two w W gB gR L hB hR M) : BothH w W hB hR M := by
  obtain ⟨B, C, hd, h1, h2⟩ := h; exact h2.both
/-- Both of the document's lists. -/
theorem two_lists {w W : World} {gB gR hB hR : Nat} {L M : List It} (h : Two w W gB gR L hB hR M) (hl : L.length ≤ 1000) (hm : M.length ≤ 1000) :
    ∃ A c A2 c2, (∀ W2, Nw W W2 → W2.cell? ⟨gR, 0, none⟩ = some (.slice A L.length c) ∧ W2.cell? ⟨hR, 0, none⟩ = some (.slice A2 M.length c2)) ∧
      ∀ W2, Nw W W2 → Calls Try.prog 24 #[.slice A L.length c, .slice A2 M.length c2] W2 fun r w' => r = .returned (.bool (decide (L = M))) ∧ Nw W2 w' := by
  obtain ⟨A, c, hc, hr, _⟩ := refs_list w W gB gR L h.bothL
  obtain ⟨A2, c2, hc2, hr2, _⟩ := refs_list w W hB hR M h.bothM
  exact ⟨A, c, A2, c2, fun W2 hW => ⟨hW.cell hc, hW.cell hc2⟩, fun W2 hW => refSame_any A A2 c c2 L M W2 (hr.nw hW) (hr2.nw hW) (by omega) (by omega)⟩
end Go.Proofs.Ytghmldfllieonaa
/- A heap's copy goes on apart: the walk of the law. Helper. -/
namespace Go.Proofs.Ytghmldfllieonaa
open Go.RowKit
set_option linter.unusedVariables false
set_option linter.unusedSimpArgs false
set_option maxRecDepth 100000
set_option maxHeartbeats 6400000
theorem copies_out0 (w : World) (A1 : Option Addr) (n1 c1 : Nat) (A2 : Option Addr) (n2 c2 : Nat) (A3 : Option Addr) (n3 c3 : Nat) (i1 : (40 : Int) < (n1 : Int)) : Calls Try.prog 6 #[.slice A1 n1 c1, .slice A2 n2 c2, .slice A3 n3 c3] w fun e w' => e = .returned (.bool true) ∧ Nw w w' := by
  have KK := Lib.hid (known_any w)
  go_enter Try.func6, Try.ntmps6
  go_wp2_with fail
  refine KK.out.mono ?_
  rintro e w1 ⟨rfl, h1⟩
  go_wp2_with fail
  go_ret
  exact ⟨rfl, h1⟩
theorem copies_out1 (w : World) (A1 : Option Addr) (n1 c1 : Nat) (A2 : Option Addr) (n2 c2 : Nat) (A3 : Option Addr) (n3 c3 : Nat) (i1 : ¬ (40 : Int) < (n1 : Int)) (i2 : (20 : Int) < (n2 : Int)) : Calls Try.prog 6 #[.slice A1 n1 c1, .slice A2 n2 c2, .slice A3 n3 c3] w fun e w' => e = .returned (.bool true) ∧ Nw w w' := by
  have KK := Lib.hid (known_any w)
  go_enter Try.func6, Try.ntmps6
  go_wp2_with fail
  refine KK.out.mono ?_
  rintro e w1 ⟨rfl, h1⟩
  go_wp2_with fail
  go_ret
  exact ⟨rfl, h1⟩
theorem copies_out2 (w : World) (A1 : Option Addr) (n1 c1 : Nat) (A2 : Option Addr) (n2 c2 : Nat) (A3 : Option Addr) (n3 c3 : Nat) (i1 : ¬ (40 : Int) < (n1 : Int)) (i2 : ¬ (20 : Int) < (n2 : Int)) (i3 : (20 : Int) < (n3 : Int)) : Calls Try.prog 6 #[.slice A1 n1 c1, .slice A2 n2 c2, .slice A3 n3 c3] w fun e w' => e = .returned (.bool true) ∧ Nw w w' := by
  have KK := Lib.hid (known_any w)
  go_enter Try.func6, Try.ntmps6
  go_wp2_with fail
  refine KK.out.mono ?_
  rintro e w1 ⟨rfl, h1⟩
  go_wp2_with fail
  go_ret
  exact ⟨rfl, h1⟩
theorem copies_in (w : World) (A1 : Option Addr) (n1 c1 : Nat) (A2 : Option Addr) (n2 c2 : Nat) (A3 : Option Addr) (n3 c3 : Nat) (zs zs2 zs3 : List (List Int)) (hn : zs.length = n1) (hn2 : zs2.length = n2) (hn3 : zs3.length = n3) (l1 : n1 ≤ 40) (l2 : n2 ≤ 20) (l3 : n3 ≤ 20) (hr : Rows w A1 9 zs) (hw : ∀ r ∈ zs, ∀ z ∈ r, (Lit.int .i64 z).wf = true) (hr2 : Rows w A2 9 zs2) (hw2 : ∀ r ∈ zs2, ∀ z ∈ r, (Lit.int .i64 z).wf = true) (hr3 : Rows w A3 9 zs3) (hw3 : ∀ r ∈ zs3, ∀ z ∈ r, (Lit.int .i64 z).wf = true) : Calls Try.prog 6 #[.slice A1 n1 c1, .slice A2 n2 c2, .slice A3 n3 c3] w fun e w' => e = .returned (.bool true) ∧ Nw w w' := by
  have KN := Lib.hid (new_in (UL []) w w (Nw.refl w) (fun k h => by simp [UL] at h))
  have KK := Lib.hid (fun W => known_any W)
  have i1 : ¬ (40 : Int) < (n1 : Int) := by omega
  have i2 : ¬ (20 : Int) < (n2 : Int) := by omega
  have i3 : ¬ (20 : Int) < (n3 : Int) := by omega
  have HI := Lib.hid (And.intro l1 (And.intro l2 l3))
  have HR := Lib.hid (fun k (hk : k < n1) => act_at hr hw (k := k) (by omega))
  have HR2 := Lib.hid (fun k (hk : k < n2) => act_at hr2 hw2 (k := k) (by omega))
  have HR3 := Lib.hid (fun k (hk : k < n3) => act_at hr3 hw3 (k := k) (by omega))
  clear hn hr hw hn2 hr2 hw2 hn3 hr3 hw3
  go_enter Try.func6, Try.ntmps6
  go_wp2_with fail
  refine KN.out.mono ?_
  rintro e wa ⟨gB, rfl, _, ha, _⟩
  obtain ⟨gR, hgR⟩ : ∃ gR, wa.heap.size = gR := ⟨_, rfl⟩
  obtain ⟨w1, hw1⟩ : ∃ w1, wa.alloc (.cells #[.slice none 0 0] 28) = w1 := ⟨_, rfl⟩
  have hB1 : BothH w w1 gB gR [] := by
    refine ⟨none, ha.grow (w' := w1) (by rw [← hw1]; exact (Below.refl _ wa).alloc (Nat.le_refl _) _) (fun k hk => ?_) (fun k hk => ?_), ⟨none, 0, by rw [← hw1]; exact Blk.last wa _ _ hgR, Own.nil _ _ _⟩, by rw [← hgR]; exact ha.nw.size, fun g hg => (by cases hg), List.Pairwise.nil⟩
    · rcases hk with rfl | hk
      · exact .inr (by omega)
      · cases hk
    · rcases hk with rfl | hk
      · rw [← hw1]; simp; omega
      · cases hk
  have HB1 := Lib.hid hB1
  have HX := Lib.hid (And.intro hgR hw1)
  clear hB1 hgR hw1 ha
  go_upto_region 4 with (fail)
  rw [HX.out.2, HX.out.1]
  clear HX KN
  go_wp2_with fail
  go_loopw [9] (fun i wr => ∃ (k : Nat) (L : List It), k ≤ n1 ∧ L.length ≤ k ∧ i = .int .i64 (k : Int) ∧ Hid (BothH w wr gB gR L)) (fun i _ => n1 - (intOf i).toNat)
  case atStart => exact ⟨0, [], by omega, by simp, rfl, HB1⟩
  case round =>
    clear HB1
    obtain ⟨k, L, hk, hLk, rfl, HB⟩ := hrel
    by_cases hlt : k < n1
    · as_aux_lemma =>
        have ik : (k : Int) < (n1 : Int) := by omega
        obtain ⟨b, off, rfl, K, x, n, hx, hc⟩ := HR.out k hlt
        obtain ⟨z0, z1, z2, z3, z4, z5, z6, z7, z8⟩ := hc wr HB.out.nw
        have KD := Lib.hid (do_any w wr gB gR L K x n HB.out hx (by have := HI.out; omega))
        have HLK := Lib.hid hLk
        clear hx hc hLk HR2 HR3 HR KK
        go_wp2_with fail
        refine KD.out.mono ?_
        rintro r w2 ⟨rfl, L', hL', h2⟩
        have H2 := Lib.hid h2
        have HL' := Lib.hid hL'
        clear h2 hL' z0 z1 z2 z3 z4 z5 z6 z7 z8
        go_wp2_with fail
        go_roundw
        case rel => exact ⟨k + 1, L', by omega, by have := HL'.out; have := HLK.out; omega, by go_num, H2⟩
        case measure => simp [intOf]; omega
    · obtain rfl : k = n1 := by omega
      have ik : ¬ (k : Int) < (k : Int) := by omega
      have hL40 : L.length ≤ 40 := by have := HI.out; omega
      have HL40 := Lib.hid hL40
      have KC := Lib.hid (copy_mine w wr gB gR L HB.out (by omega))
      clear hL40 hLk HR
      go_wp2_with fail
      refine KC.out.mono ?_
      rintro r w2 ⟨hB, rfl, h2⟩
      have KC2 := Lib.hid (copy_theirs w w2 gB gR L hB h2 (by have := HL40.out; omega))
      clear h2 KC HB
      go_wp2_with fail
      refine KC2.out.mono ?_
      rintro r w3 ⟨hR, rfl, h3⟩
      have ks := fun W (h : Two w W gB gR L hB hR L) => sameH_two w W gB gR L hB hR L h (by have := HL40.out; omega) (by have := HL40.out; omega)
      have ks2 := fun W (h : Two w W gB gR L hB hR L) => sameH_two2 w W gB gR L hB hR L h (by have := HL40.out; omega) (by have := HL40.out; omega)
      simp only [decide_true] at ks ks2
      have KS := Lib.hid ks
      have KS2 := Lib.hid ks2
      have H3 := Lib.hid h3
      clear ks ks2 h3 KC2
      go_wp2_with fail
      refine (KS.out w3 H3.out).mono ?_
      rintro r w4 ⟨rfl, h4⟩
      have H4 := Lib.hid h4
      clear h4 H3
      go_wp2_with fail
      refine (KS2.out w4 H4.out).mono ?_
      rintro r w5 ⟨rfl, h5⟩
      have H5 := Lib.hid h5
      clear h5 H4 KS KS2
      go_wp2_with fail
      go_loopw [12] (fun i wr => ∃ (k : Nat) (L' : List It), k ≤ n2 ∧ L'.length ≤ 40 + k ∧ i = .int .i64 (k : Int) ∧ Hid (Two w wr gB gR L' hB hR L)) (fun i _ => n2 - (intOf i).toNat)
      case atStart => exact ⟨0, L, by omega, by have := HL40.out; omega, rfl, H5⟩
      case round =>
        clear H5
        rename_i wr0
        obtain ⟨k, L', hk, hLk, rfl, HB⟩ := hrel
        by_cases hlt : k < n2
        · as_aux_lemma =>
            have ik : (k : Int) < (n2 : Int) := by omega
            obtain ⟨b, off, rfl, K, x, n, hx, hc⟩ := HR2.out k hlt
            obtain ⟨z0, z1, z2, z3, z4, z5, z6, z7, z8⟩ := hc wr HB.out.nw
            have KD := Lib.hid (do_two w wr gB gR L' hB hR L K x n HB.out hx (by have := HI.out; omega))
            have HLK := Lib.hid hLk
            clear hx hc hLk HR3 HR2 KK
            go_wp2_with fail
            refine KD.out.mono ?_
            rintro r w2 ⟨rfl, L2, hL', h2⟩
            have H2 := Lib.hid h2
            have HL' := Lib.hid hL'
            clear h2 hL' z0 z1 z2 z3 z4 z5 z6 z7 z8
            go_wp2_with fail
            go_roundw
            case rel => exact ⟨k + 1, L2, by omega, by have := HL'.out; have := HLK.out; omega, by go_num, H2⟩
            case measure => simp [intOf]; omega
        · obtain rfl : k = n2 := by omega
          have ik : ¬ (k : Int) < (k : Int) := by omega
          have HL60 := Lib.hid (show L'.length ≤ 60 by have := HI.out; omega)
          clear hLk HR2
          go_wp2_with fail
          go_loopw [13] (fun i wr => ∃ (k : Nat) (M : List It), k ≤ n3 ∧ M.length ≤ 40 + k ∧ i = .int .i64 (k : Int) ∧ Hid (Two w wr gB gR L' hB hR M)) (fun i _ => n3 - (intOf i).toNat)
          case atStart => exact ⟨0, L, by omega, by have := HL40.out; omega, rfl, HB⟩
          case round =>
            clear HB HL40
            obtain ⟨k, M, hk, hMk, rfl, HB⟩ := hrel
            by_cases hlt : k < n3
            · as_aux_lemma =>
                have ik : (k : Int) < (n3 : Int) := by omega
                obtain ⟨b, off, rfl, K, x, n, hx, hc⟩ := HR3.out k hlt
                obtain ⟨z0, z1, z2, z3, z4, z5, z6, z7, z8⟩ := hc wr HB.out.nw
                have KD := Lib.hid (do_two2 w wr gB gR L' hB hR M K x n HB.out hx (by have := HI.out; omega))
                have HMK := Lib.hid hMk
                clear hx hc hMk HR3 KK
                go_wp2_with fail
                refine KD.out.mono ?_
                rintro r w2 ⟨rfl, M2, hM', h2⟩
                have H2 := Lib.hid h2
                have HM' := Lib.hid hM'
                clear h2 hM' z0 z1 z2 z3 z4 z5 z6 z7 z8
                go_wp2_with fail
                go_roundw
                case rel => exact ⟨k + 1, M2, by omega, by have := HM'.out; have := HMK.out; omega, by go_num, H2⟩
                case measure => simp [intOf]; omega
            · obtain rfl : k = n3 := by omega
              have ik : ¬ (k : Int) < (k : Int) := by omega
              have HM60 := Lib.hid (show M.length ≤ 60 by have := HI.out; omega)
              clear hMk HR3
              obtain ⟨Aa, ca, Ab, cb, hcl, hcs⟩ := two_lists HB.out (by have := HL60.out; omega) (by have := HM60.out; omega)
              have ks := fun W (h : Two w W gB gR L' hB hR M) => sameH_two w W gB gR L' hB hR M h (by have := HL60.out; omega) (by have := HM60.out; omega)
              have ks2 := fun W (h : Two w W gB gR L' hB hR M) => sameH_two2 w W gB gR L' hB hR M h (by have := HL60.out; omega) (by have := HM60.out; omega)
              obtain ⟨R, hRe⟩ : ∃ R, decide (L' = M) = R := ⟨_, rfl⟩
              rw [hRe] at hcs ks ks2
              have KS := Lib.hid ks
              have KS2 := Lib.hid ks2
              have KA := Lib.hid (fun W (h : Two w W gB gR L' hB hR M) => same_two w W gB gR L' hB hR M h (by have := HL60.out; omega))
              have KB := Lib.hid (fun W (h : Two w W gB gR L' hB hR M) => same_two2 w W gB gR L' hB hR M h (by have := HM60.out; omega))
              obtain ⟨p1, hp1⟩ : ∃ p, L'.length = p := ⟨_, rfl⟩
              obtain ⟨p2, hp2⟩ : ∃ p, M.length = p := ⟨_, rfl⟩
              rw [hp1, hp2] at hcl hcs
              have HCS := Lib.hid hcs
              have hss : ∀ W2, Nw wr W2 → Nw wr W2 ∧ W2.cell? ⟨gR, 0, none⟩ = some (.slice Aa p1 ca) ∧ W2.cell? ⟨hR, 0, none⟩ = some (.slice Ab p2 cb) := fun W2 h => ⟨h, hcl W2 h⟩
              have HSS := Lib.hid hss
              obtain ⟨q1, q2⟩ := hcl wr (Nw.refl wr)
              have hi0 := Nw.refl wr
              clear hRe ks ks2 hp1 hp2 hcs hcl hss
              go_upto_region 21 with (fail)
              go_region_held3 (fun W2 => Nw wr W2 ∧ W2.cell? ⟨gR, 0, none⟩ = some (.slice Aa p1 ca) ∧ W2.cell? ⟨hR, 0, none⟩ = some (.slice Ab p2 cb)) ((refine HSS.out _ ?_; repeat (first | assumption | exact Nw.refl wr | refine Nw.drew ?_))) (first
                | (go_at_call 24; refine (HCS.out _ (by repeat (first | assumption | exact Nw.refl wr | refine Nw.drew ?_))).mono ?_; rintro r w5 ⟨rfl, b5⟩; have i5 : Nw wr w5 := Nw.step (by repeat (first | assumption | exact Nw.refl wr | refine Nw.drew ?_)) b5))
              case' _ => skip
              rename_i hH
              have H4 := Lib.hid (HB.out.step hH.1)
              clear hH HB hi0 q1 q2 HSS HCS
              go_wp2_with fail
              refine (KA.out _ H4.out).mono ?_
              rintro r w5 ⟨rfl, h5⟩
              have H5 := Lib.hid h5
              clear h5 H4
              go_wp2_with fail
              refine (KB.out _ H5.out).mono ?_
              rintro r w6 ⟨rfl, h6⟩
              have H6 := Lib.hid h6
              clear h6 H5
              go_wp2_with fail
              refine (KS.out _ H6.out).mono ?_
              rintro r w7 ⟨rfl, h7⟩
              have H7 := Lib.hid h7
              clear h7 H6
              go_wp2_with fail
              refine (KS2.out _ H7.out).mono ?_
              rintro r w8 ⟨rfl, h8⟩
              have H8 := Lib.hid h8
              clear h8 H7
              go_wp2_with fail
              refine (KK.out _).mono ?_
              rintro r w9 ⟨rfl, h9⟩
              have H9 := Lib.hid (H8.out.nw.step h9)
              clear h9
              go_wp2_with fail
              go_ret
              exact ⟨rfl, H9.out⟩
end Go.Proofs.Ytghmldfllieonaa
