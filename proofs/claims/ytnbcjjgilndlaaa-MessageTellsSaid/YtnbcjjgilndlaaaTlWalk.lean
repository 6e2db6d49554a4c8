/- MessageTells: the walk of the law. Helper. -/
import Derived.Test.YtnbcjjgilndlaaaTlMayP
import Derived.Test.YtnbcjjgilndlaaaRdKnown
import Derived.Test.YtnbcjjgilndlaaaRdSm
import Derived.Test.YtnbcjjgilndlaaaTlArgG
import Derived.Test.YtnbcjjgilndlaaaRdRefT
namespace Go.Proofs.Ytnbcjjgilndlaaa
open Go.RowKit
set_option linter.unusedVariables false
set_option linter.unusedSimpArgs false
set_option maxRecDepth 100000
set_option maxHeartbeats 6400000
theorem own_farV {w : World} {e : TypeId} {A : Option Addr} {c n : Nat} {l : List Int} {blk : Option Nat} (h : Own w e 1 (.slice A n c) n (l.map fun n => .int .i64 n) blk) : l = [] ∨ ∃ a, A = some a ∧ blk = some a.block := by
  obtain ⟨hl, A', c', e1, hn, hm, h | ⟨g, off, cur, rfl, rfl, hg, h1, h2⟩⟩ := h
  · left
    have : (l.map fun n => Value.int .i64 n).length = 0 := by rw [hl]; obtain ⟨h3, _⟩ := h; omega
    simpa using this
  · injection e1 with e1 _ _
    exact .inr ⟨_, e1, rfl⟩
theorem ints_setCell {w w3 : World} {A : Option Addr} {l : List Int} {p : Addr} {v : Value} (h : IntsAt w A l) (e3 : w.setCell p v = w3) (hf : l = [] ∨ ∃ a, A = some a ∧ a.block ≠ p.block) : IntsAt w3 A l := by
  subst e3
  rcases hf with rfl | ⟨a, rfl, ha⟩
  · exact .inl rfl
  · rcases h with h | ⟨b, off, e, hc⟩
    · exact .inl h
    · injection e with e
      subst e
      refine .inr ⟨b, off, rfl, fun j u hu => ?_⟩
      have h2 := hc j u hu
      rw [World.cell?_setCell_other (h := fun e => ha (by rw [e]))]
      exact h2
theorem tells_out (w : World) (q : Rs) (A : Option Addr) (c : Nat) (h : (100 : Int) < (q.vs.length : Int)) : Calls Try.prog 6 #[.agg (q.c A c).toArray] w fun e w' => e = .returned (.bool true) ∧ Nw w w' := by
  obtain ⟨Q0, hQ⟩ : ∃ Q, (q.c A c).toArray = Q := ⟨_, rfl⟩
  obtain ⟨w1, hw1⟩ : ∃ W, w.alloc (.cells Q0 42) = W := ⟨_, rfl⟩
  have b1 : Blk w1 w.heap.size 42 Q0 := by rw [← hw1]; exact Blk.last w _ _ rfl
  have n1 : Nw w w1 := by rw [← hw1]; exact (Nw.refl w).alloc _
  have u3 : w1.cell? ⟨w.heap.size, 4, none⟩ = some (.slice A q.vs.length c) := (b1.cell 4).trans (by rw [← hQ]; rfl)
  rw [hQ]
  have HW1 := Lib.hid hw1
  have N1 := Lib.hid n1
  clear hw1 n1 b1 hQ
  go_enter Try.func6, Try.ntmps6
  go_upto_region 1 with (fail)
  rw [HW1.out]
  go_wp2_with fail
  refine (known_any w1).mono ?_
  rintro e w2 ⟨rfl, n2⟩
  have N2 := Lib.hid (Nw.trans N1.out n2)
  clear n2
  go_wp2_with fail
  go_ret
  exact ⟨rfl, N2.out⟩
theorem tells_in (w : World) (q : Rs) (hq : q.Fit) (A : Option Addr) (c : Nat) (hb : IntsAt w A q.vs) (hl : q.vs.length ≤ 100) :
    Calls Try.prog 6 #[.agg (q.c A c).toArray] w fun e w' => e = .returned (.bool true) ∧ Nw w w' := by
  have hA := ints_blk hb
  obtain ⟨Q0, hQ⟩ : ∃ Q, (q.c A c).toArray = Q := ⟨_, rfl⟩
  obtain ⟨n, hn⟩ : ∃ n, q.vs.length = n := ⟨_, rfl⟩
  have HQ0 := Lib.hid (show Q0.size = 18 ∧ Q0.all (·.oneCell') = true ∧ Q0 = (q.c A c).toArray by rw [← hQ]; exact ⟨rfl, by simp [Rs.c, Value.oneCell'], rfl⟩)
  obtain ⟨w1, hw1⟩ : ∃ W, w.alloc (.cells Q0 42) = W := ⟨_, rfl⟩
  have b1 : Blk w1 w.heap.size 42 Q0 := by rw [← hw1]; exact Blk.last w _ _ rfl
  have n1 : Nw w w1 := by rw [← hw1]; exact (Nw.refl w).alloc _
  have u3 : w1.cell? ⟨w.heap.size, 4, none⟩ = some (.slice A n c) := (b1.cell 4).trans (by rw [← hQ, ← hn]; rfl)
  have h5 : ¬ (100 : Int) < (n : Int) := by omega
  obtain ⟨w2, hw2⟩ : ∃ W, w1.alloc (.cells Q0 42) = W := ⟨_, rfl⟩
  obtain ⟨G3, hG3⟩ : ∃ G, w1.heap.size = G := ⟨_, rfl⟩
  have b2 : Blk w2 w.heap.size 42 Q0 := by rw [← hw2]; exact b1.alloc _
  have b3 : Blk w2 G3 42 Q0 := by rw [← hw2]; exact Blk.last w1 _ _ hG3
  have n2 : Nw w w2 := by rw [← hw2]; exact n1.alloc _
  have v3 : w2.cell? ⟨w.heap.size, 4, none⟩ = some (.slice A n c) := (b2.cell 4).trans (by rw [← hQ, ← hn]; rfl)
  have g3 : w2.cell? ⟨G3, 4, none⟩ = some (.slice A n c) := (b3.cell 4).trans (by rw [← hQ, ← hn]; rfl)
  have z3 := b3.frozen 4
  obtain ⟨i0, hi0, hz0, hz1, hz2⟩ := info_parts infoI64
  have HL1 := Lib.hid hi0
  have HL2 := Lib.hid hz0
  have HL3 := Lib.hid hz1
  have HL4 := Lib.hid hz2
  obtain ⟨d, hd⟩ := stRs
  have HD := Lib.hid hd
  have HI := Lib.hid (show (Try.prog.info? 42).map (·.size) = some Q0.size by rw [HQ0.out.1]; kernel_rfl)
  have HZ := Lib.hid (show (#[.int .i64 0, .int .u32 0, .int .i64 0, .int .i64 0, .slice none 0 0, .int .i64 0, .int .i64 0, .int .i64 0, .int .i64 0, .int .i64 0, .int .i64 0, .int .u32 0, .int .i64 0, .int .i64 0, .int .i64 0, .int .i64 0, .int .i64 0, .int .i64 0] : Array Value).size = Q0.size by rw [HQ0.out.1]; rfl)
  have HW1 := Lib.hid hw1
  have HW2 := Lib.hid (And.intro hw2 hG3)
  have B1 := Lib.hid b1
  have B2 := Lib.hid b2
  have B3 := Lib.hid b3
  have N1 := Lib.hid n1
  have N2 := Lib.hid n2
  have HB := Lib.hid (And.intro hb hA)
  have HN := Lib.hid (show q.vs.length = n ∧ n ≤ 100 from ⟨hn, by omega⟩)
  have HF := Lib.hid hq
  have hG := Lib.hid (show w.heap.size < G3 by rw [← hG3]; exact b1.lt)
  rw [hQ]
  clear hw1 hw2 hG3 b1 b2 b3 n1 n2 hb hA hn hq hl hi0 hz0 hz1 hz2 hd hQ
  obtain ⟨mb, hmb⟩ : ∃ mb, mayS q = mb := ⟨_, rfl⟩
  have HM := Lib.hid hmb
  clear hmb
  go_enter Try.func6, Try.ntmps6
  go_upto_region 1 with (fail)
  rw [HW1.out]
  go_upto_region 4 with (first | (refine wpList_load_row rfl 42 _ rfl w.heap.size rfl 42 Q0 (0, 0) (.struct d) B1.out HD.out rfl HI.out ?_) | (refine wpList_store_row rfl 42 _ _ rfl w1.heap.size Q0 rfl rfl 42 _ (heap_last _ _ rfl) HI.out HZ.out HQ0.out.2.1 ?_; rw [setRow_last _ _ _ _ rfl]))
  rw [HW2.out.1, HW2.out.2]
  clear u3
  go_upto_region 5 with (at_builtin; refine wpList_append_at w2 rfl _ _ _ rfl 2 i0 _ 1 8 Try.underlying38 HL1.out HL2.out HL3.out HL4.out rfl (by omega) _ 0 [] none rfl (Own.nil _ _ _) _ n c (q.vs.map fun n => Value.int .i64 n) rfl (by rw [List.length_map]; have := HN.out; omega) (show Rd w2 A (q.vs.map fun n => Value.int .i64 n) from Rd.nw HB.out.1 N2.out) (by simp [Value.oneCell']) (by have := HN.out; simp only [maxLen]; omega) (by have := HN.out; omega) ?_; intro A1 c1 w3 blk1 hown hchg hat; simp only [Nat.zero_add, List.nil_append] at hown ⊢; have n23 : Nw w2 w3 := hchg.below (fun i _ q => by cases q) (Nat.le_refl _); have b3' : Blk w3 G3 42 Q0 := B3.out.below n23 B3.out.lt; have g3 : w3.cell? ⟨G3, 4, none⟩ = some (.slice A n c) := n23.cell g3; have z3 := b3'.frozen 4; have HO1 := Lib.hid hown; have HT1 := Lib.hid hat; have N23 := Lib.hid n23; have B33 := Lib.hid b3'; clear hown hchg hat n23 b3')
  obtain ⟨w4, hw4⟩ : ∃ W, w3.setCell ⟨G3, 4, none⟩ (.slice A1 n c1) = W := ⟨_, rfl⟩
  have HFAR := Lib.hid (show q.vs = [] ∨ ∃ a, A1 = some a ∧ blk1 = some a.block from own_farV HO1.out)
  have HFB := Lib.hid (show ∀ g, blk1 = some g → g < w3.heap.size ∧ g ≠ G3 from fun g hg => ⟨HO1.out.lt g hg, by
    have := B3.out.lt
    rcases HT1.out with q | q
    · rw [q] at hg; cases hg
    · rw [q] at hg; injection hg with hg; omega⟩)
  have hby3 : IntsAt w3 A1 q.vs := by
    obtain ⟨_, _, e2, hrd, hnc, _⟩ := HO1.out.rd
    injection e2 with e3 _ e4
    subst e3 e4
    exact hrd
  have hby4 : IntsAt w4 A1 q.vs := ints_setCell hby3 hw4 (HFAR.out.imp_right fun ⟨a, h1, h2⟩ => ⟨a, h1, (HFB.out _ h2).2⟩)
  have hA4 : q.vs = [] ∨ ∀ a, A1 = some a → a.block < w4.heap.size := HFAR.out.imp_right fun ⟨a, h1, h2⟩ a' ha' => by
    rw [h1] at ha'; injection ha' with ha'; subst ha'
    have := (HFB.out _ h2).1
    rw [← hw4]; simpa using this
  obtain ⟨Q3, hQ3⟩ : ∃ Q, (q.c A1 c1).toArray = Q := ⟨_, rfl⟩
  have HQ3 := Lib.hid (show Q3.size = 18 ∧ Q3 = (q.c A1 c1).toArray by rw [← hQ3]; exact ⟨rfl, rfl⟩)
  have b43 : Blk w4 G3 42 Q3 := by
    have h := B33.out.set_ 4 (.slice A1 n c1)
    rw [hw4] at h
    have e : Q0.setIfInBounds 4 (.slice A1 n c1) = Q3 := by rw [HQ0.out.2.2, ← hQ3, ← HN.out.1]; rfl
    rw [e] at h; exact h
  have b41 : Blk w4 w.heap.size 42 Q0 := by
    rw [← hw4]
    exact (B2.out.below N23.out B2.out.lt).far (p := ⟨G3, 4, none⟩) (by have := hG.out; show w.heap.size ≠ G3; omega) _
  have n4 : Nw w w4 := by
    rw [← hw4]
    exact (Nw.trans N2.out N23.out).set (by have := hG.out; show w.heap.size ≤ G3; omega) _
  have K5 := encS_eq w4 q HF.out A1 c1 hby4
  rw [hQ3] at K5
  have HK5 := Lib.hid K5
  have HI3 := Lib.hid (show (Try.prog.info? 42).map (·.size) = some Q3.size by rw [HQ3.out.1]; kernel_rfl)
  have HW4 := Lib.hid hw4
  have B43 := Lib.hid b43
  have B41 := Lib.hid b41
  have N4 := Lib.hid n4
  have HY := Lib.hid (And.intro hby4 hA4)
  rw [hw4]
  clear hby3 hby4 hA4 b43 b41 n4 K5 hw4 g3 z3 v3 hQ3
  have KM := Lib.hid (fun (W : World) (hW : Nw w W) => by
    have h := mays7_any W q A c (Rd.nw HB.out.1 hW)
    rw [← HQ0.out.2.2, HM.out] at h
    exact h)
  have KO := Lib.hid (fun (W : World) (hW : Nw w W) => by
    have h := mayP_any W q HF.out A c (Rd.nw HB.out.1 hW)
    rw [← HQ0.out.2.2, HM.out] at h
    exact h)
  have KS := Lib.hid (fun (W : World) (hW : Nw w4 W) => by
    have h := refRs_any W q q A1 A c1 c (Rd.nw HY.out.1 hW) (Rd.nw HB.out.1 (Nw.trans N4.out hW)) (by have := HN.out; omega) (by have := HN.out; omega)
    rw [← HQ0.out.2.2, ← HQ3.out.2, decide_eq_true rfl] at h
    exact h)
  go_wp2_with (refine wpList_load_row rfl 42 _ rfl G3 rfl 42 Q3 (0, 0) (.struct d) B43.out HD.out rfl HI3.out ?_)
  refine HK5.out.mono ?_
  intro e w5 h
  rw [HM.out] at h
  cases mb with
  | false =>
    rw [if_neg (by simp)] at h
    obtain ⟨rfl, n5⟩ := h
    have N5 := Lib.hid n5
    have B51 := Lib.hid (B41.out.below n5 B41.out.lt)
    have B53 := Lib.hid (B43.out.below n5 B43.out.lt)
    clear n5
    go_upto_region 6 with (fail)
    go_wp2_with (refine wpList_load_row rfl 42 _ rfl w.heap.size rfl 42 Q0 (0, 0) (.struct d) B51.out HD.out rfl HI.out ?_)
    refine (KM.out w5 (Nw.trans N4.out N5.out)).mono ?_
    rintro e w6 ⟨rfl, n6⟩
    have N6 := Lib.hid (Nw.trans N5.out n6)
    have B61 := Lib.hid (B51.out.below n6 B51.out.lt)
    have B63 := Lib.hid (B53.out.below n6 B53.out.lt)
    clear n6
    go_wp2_with (refine wpList_load_row rfl 42 _ rfl w.heap.size rfl 42 Q0 (0, 0) (.struct d) B61.out HD.out rfl HI.out ?_)
    refine (KO.out w6 (Nw.trans N4.out N6.out)).mono ?_
    rintro e w7 ⟨rfl, n7⟩
    have N7 := Lib.hid (Nw.trans N6.out n7)
    have B71 := Lib.hid (B61.out.below n7 B61.out.lt)
    have B73 := Lib.hid (B63.out.below n7 B63.out.lt)
    clear n7
    go_wp2_with (first | (refine wpList_load_row_g rfl 42 _ rfl G3 rfl 42 Q3 (0, 0) (.struct d) B73.out HD.out rfl HI3.out ?_) | (refine wpList_load_row_g rfl 42 _ rfl w.heap.size rfl 42 Q0 (0, 0) (.struct d) B71.out HD.out rfl HI.out ?_))
    refine (KS.out w7 N7.out).mono ?_
    rintro e w8 ⟨rfl, n8⟩
    have N8 := Lib.hid (Nw.trans N7.out n8)
    have B81 := Lib.hid (B71.out.below n8 B71.out.lt)
    clear n8
    as_aux_lemma =>
      go_wp2_with fail
      refine (known_any w8).mono ?_
      rintro e w9 ⟨rfl, n9⟩
      have N9 := Lib.hid (Nw.trans (Nw.trans N4.out N8.out) n9)
      clear n9
      go_wp2_with fail
      go_ret
      exact ⟨rfl, N9.out⟩
  | true =>
    rw [if_pos rfl] at h
    obtain ⟨A5, c5, rfl, hb5, hc5, n5⟩ := h
    have HD7 := Lib.hid (dec7S_back q HF.out HM.out)
    have HLN := Lib.hid (encB_small q HM.out)
    obtain ⟨BB, hBB⟩ : ∃ BB, encB q = BB := ⟨_, rfl⟩
    rw [hBB] at hb5 hc5 HD7 HLN ⊢
    obtain ⟨Lb, hLb⟩ : ∃ L, BB.length = L := ⟨_, rfl⟩
    rw [hLb] at hc5 HLN ⊢
    have HBB := Lib.hid hBB
    have HBL := Lib.hid hLb
    have H5 := Lib.hid (And.intro hb5 hc5)
    clear hb5 hc5 hBB hLb
    have N5 := Lib.hid n5
    have M5 := Lib.hid (Nw.refl w5)
    have B51 := Lib.hid (B41.out.below n5 B41.out.lt)
    have B53 := Lib.hid (B43.out.below n5 B43.out.lt)
    clear n5
    go_upto_region 6 with (fail)
    go_wp2_with (refine wpList_load_row rfl 42 _ rfl w.heap.size rfl 42 Q0 (0, 0) (.struct d) B51.out HD.out rfl HI.out ?_)
    refine (KM.out w5 (Nw.trans N4.out N5.out)).mono ?_
    rintro e w6 ⟨rfl, n6⟩
    have N6 := Lib.hid (Nw.trans N5.out n6)
    have M6 := Lib.hid (Nw.trans M5.out n6)
    have B61 := Lib.hid (B51.out.below n6 B51.out.lt)
    have B63 := Lib.hid (B53.out.below n6 B53.out.lt)
    clear n6
    go_wp2_with (refine wpList_load_row rfl 42 _ rfl w.heap.size rfl 42 Q0 (0, 0) (.struct d) B61.out HD.out rfl HI.out ?_)
    refine (KO.out w6 (Nw.trans N4.out N6.out)).mono ?_
    rintro e w7 ⟨rfl, n7⟩
    have N7 := Lib.hid (Nw.trans N6.out n7)
    have M7 := Lib.hid (Nw.trans M6.out n7)
    have B71 := Lib.hid (B61.out.below n7 B61.out.lt)
    have B73 := Lib.hid (B63.out.below n7 B63.out.lt)
    clear n7
    go_wp2_with (first | (refine wpList_load_row_g rfl 42 _ rfl G3 rfl 42 Q3 (0, 0) (.struct d) B73.out HD.out rfl HI3.out ?_) | (refine wpList_load_row_g rfl 42 _ rfl w.heap.size rfl 42 Q0 (0, 0) (.struct d) B71.out HD.out rfl HI.out ?_))
    refine (KS.out w7 N7.out).mono ?_
    rintro e w8 ⟨rfl, n8⟩
    have N8 := Lib.hid (Nw.trans N7.out n8)
    have M8 := Lib.hid (Nw.trans M7.out n8)
    have B81 := Lib.hid (B71.out.below n8 B71.out.lt)
    clear n8
    have N58 := Lib.hid M8.out
    have K11 := ourS_any w8 A5 Lb c5 BB (Rd.nw H5.out.1 N58.out) HBL.out H5.out.2 (by have := HLN.out; omega)
    rw [HD7.out] at K11
    have HK11 := Lib.hid K11
    clear K11
    go_wp2_with fail
    refine HK11.out.mono ?_
    rintro e wd ⟨A6, c6, rfl, hb6, nd, _⟩
    obtain ⟨Q7, hQ7⟩ : ∃ Q, (q.c A6 c6).toArray = Q := ⟨_, rfl⟩
    simp only at hb6
    rw [hQ7]
    have HQ7 := Lib.hid (show Q7.size = 18 ∧ Q7.all (·.oneCell') = true ∧ Q7 = (q.c A6 c6).toArray by rw [← hQ7]; exact ⟨rfl, by simp [Rs.c, Value.oneCell'], rfl⟩)
    have HI7 := Lib.hid (show (Try.prog.info? 42).map (·.size) = some Q7.size by rw [HQ7.out.1]; kernel_rfl)
    have HZ7 := Lib.hid (show (#[.int .i64 0, .int .u32 0, .int .i64 0, .int .i64 0, .slice none 0 0, .int .i64 0, .int .i64 0, .int .i64 0, .int .i64 0, .int .i64 0, .int .i64 0, .int .u32 0, .int .i64 0, .int .i64 0, .int .i64 0, .int .i64 0, .int .i64 0, .int .i64 0] : Array Value).size = Q7.size by rw [HQ7.out.1]; rfl)
    have HB6 := Lib.hid hb6
    have ND := Lib.hid nd
    clear hb6 nd hQ7
    go_upto_region 12 with (refine wpList_store_row rfl 42 _ _ rfl wd.heap.size Q7 rfl rfl 42 _ (heap_last _ _ rfl) HI7.out HZ7.out HQ7.out.2.1 ?_; rw [setRow_last _ _ _ _ rfl])
    obtain ⟨w9, hw9⟩ : ∃ W, wd.alloc (.cells Q7 42) = W := ⟨_, rfl⟩
    obtain ⟨G7, hG7⟩ : ∃ G, wd.heap.size = G := ⟨_, rfl⟩
    rw [hw9, hG7]
    have nd9 : Nw wd w9 := by rw [← hw9]; exact (Nw.refl wd).alloc _
    have n89 : Nw w8 w9 := Nw.trans ND.out nd9
    have b97 : Blk w9 G7 42 Q7 := by rw [← hw9]; exact Blk.last wd _ _ hG7
    have b91 : Blk w9 w.heap.size 42 Q0 := B81.out.below n89 B81.out.lt
    have N9 := Lib.hid (Nw.trans N4.out (Nw.trans N8.out n89))
    have BB9 := Lib.hid (show BytesAt w9 A5 BB from Rd.nw H5.out.1 (Nw.trans N58.out n89))
    have HSW := Lib.hid (fun W (hW : Nw w9 W) => (⟨hW, b91.below hW b91.lt, b97.below hW b97.lt⟩ : Nw w9 W ∧ Blk W w.heap.size 42 Q0 ∧ Blk W G7 42 Q7))
    have HKK := Lib.hid (show 1 ≤ q.k ∧ q.k ≤ 5 by
      have h := HM.out
      simp only [mayS, Bool.and_eq_true, decide_eq_true_eq] at h
      exact ⟨h.1.1, h.1.2.1⟩)
    have KE := Lib.hid (fun (W : World) (hW : Nw w9 W) => by
      have h := encs7_any W q A c (Rd.nw HB.out.1 (Nw.trans N9.out hW)) ⟨HKK.out, HF.out.id, HF.out.nu, by have := HN.out; omega⟩
      rw [← HQ0.out.2.2, HBB.out] at h
      exact h)
    have KS9 := Lib.hid (fun (W : World) (hW : Nw w9 W) => by
      have h := refRs_any W q q A6 A c6 c (Rd.nw HB6.out (Nw.trans nd9 hW)) (Rd.nw HB.out.1 (Nw.trans N9.out hW)) (by have := HN.out; omega) (by have := HN.out; omega)
      rw [← HQ0.out.2.2, ← HQ7.out.2.2, decide_eq_true rfl] at h
      exact h)
    have g1 : (Lb : Int) ≤ 4096 := by have := HLN.out; omega
    clear hw9 hG7 nd9 n89 b97 b91
    focus
      refine wp_region_F (fun W => Nw w9 W ∧ Blk W w.heap.size 42 Q0 ∧ Blk W G7 42 Q7) [27] (by kernel_rfl) ?_
      have hS := HSW.out w9.drew (Nw.refl w9).drew
      refine wpAnyF_freeT (i := 0) (v := ?_) rfl (by kernel_rfl) (by kernel_rfl) (by kernel_rfl) (by kernel_rfl) (by kernel_rfl) (fun _ _ _ h => h) (by rfl) ?_ hS ?_
      rotate_left
      · intro u
        go_simp
        try with_reducible rfl
      try simp only [List.getElem_toArray, List.getElem_cons_succ, List.getElem_cons_zero, Act.put, List.setIfInBounds_toArray, List.set_cons_zero, List.set_cons_succ]
      refine wpAnyF_freeT (i := 1) (v := ?_) rfl (by kernel_rfl) (by kernel_rfl) (by kernel_rfl) (by kernel_rfl) (by kernel_rfl) (fun _ _ _ h => h) (by rfl) ?_ hS ?_
      rotate_left
      · intro u
        go_simp
        try with_reducible rfl
      try simp only [List.getElem_toArray, List.getElem_cons_succ, List.getElem_cons_zero, Act.put, List.setIfInBounds_toArray, List.set_cons_zero, List.set_cons_succ]
      refine wpAnyF_freeT (i := 2) (v := ?_) rfl (by kernel_rfl) (by kernel_rfl) (by kernel_rfl) (by kernel_rfl) (by kernel_rfl) (fun _ _ _ h => h) (by rfl) ?_ hS ?_
      rotate_left
      · intro u
        go_simp
        try with_reducible rfl
      try simp only [List.getElem_toArray, List.getElem_cons_succ, List.getElem_cons_zero, Act.put, List.setIfInBounds_toArray, List.set_cons_zero, List.set_cons_succ]
      refine wpAnyF_freeT (i := 3) (v := ?_) rfl (by kernel_rfl) (by kernel_rfl) (by kernel_rfl) (by kernel_rfl) (by kernel_rfl) (fun _ _ _ h => h) (by rfl) ?_ hS ?_
      rotate_left
      · intro u
        go_simp
        try with_reducible rfl
      try simp only [List.getElem_toArray, List.getElem_cons_succ, List.getElem_cons_zero, Act.put, List.setIfInBounds_toArray, List.set_cons_zero, List.set_cons_succ]
      refine wpAnyF_takeT (i := 4) (v := ?_) rfl (by kernel_rfl) (by kernel_rfl) (by kernel_rfl) (by kernel_rfl) (by kernel_rfl) (by kernel_rfl) (fun _ _ _ h => h) (by rfl) ?_ hS ?_
      rotate_left
      · intro u hu
        have s8 := BytesAt.str (show BytesAt u A5 BB from Rd.nw BB9.out hu.1) 22 5 9 c5 Try.underlying22 Try.underlying5 Try.underlying9
        rw [HBL.out] at s8
        go_simp
        try with_reducible rfl
      try simp only [List.getElem_toArray, List.getElem_cons_succ, List.getElem_cons_zero, Act.put, List.setIfInBounds_toArray, List.set_cons_zero, List.set_cons_succ]
      refine wpAnyF_takeT (i := 5) (v := ?_) rfl (by kernel_rfl) (by kernel_rfl) (by kernel_rfl) (by kernel_rfl) (by kernel_rfl) (by kernel_rfl) (fun _ _ _ h => h) (by rfl) ?_ hS ?_
      rotate_left
      · intro u hu
        try simp only [List.getElem_toArray, List.getElem_cons_succ, List.getElem_cons_zero]
        refine Eq.trans (exec_load_row 42 _ rfl _ rfl 42 Q0 (0, 0) (.struct d) hu.2.1 HD.out rfl HI.out) ?_
        with_reducible rfl
      try simp only [List.getElem_toArray, List.getElem_cons_succ, List.getElem_cons_zero, Act.put, List.setIfInBounds_toArray, List.set_cons_zero, List.set_cons_succ]
      refine wpAnyF_step (i := 6) (by kernel_rfl) rfl (by rfl) fun K hK => ?_
      go_simp
      go_at_call 24
      refine (KE.out w9.drew (Nw.refl w9).drew).mono ?_
      rintro e wA ⟨A8, c8, rfl, hb8, hc8, nA⟩
      have iA : Nw w9 wA := Nw.trans (Nw.refl w9).drew nA
      rw [HBL.out] at hc8 ⊢
      have s6 := BytesAt.str hb8 22 5 9 c8 Try.underlying22 Try.underlying5 Try.underlying9
      rw [HBL.out] at s6
      clear hb8 hc8 nA
      have hS := HSW.out wA iA
      refine hK _ _ (.inr (HSW.out wA iA)) ?_
      clear hK K
      try simp only [List.getElem_toArray, List.getElem_cons_succ, List.getElem_cons_zero, Act.put, List.setIfInBounds_toArray, List.set_cons_zero, List.set_cons_succ]
      refine wpAnyF_step (i := 7) (by kernel_rfl) rfl (by rfl) fun K hK => ?_
      go_simp
      refine hK _ _ (.inr hS) ?_
      clear hK K
      try simp only [List.getElem_toArray, List.getElem_cons_succ, List.getElem_cons_zero, Act.put, List.setIfInBounds_toArray, List.set_cons_zero, List.set_cons_succ]
      refine wpAnyF_step (i := 8) (by kernel_rfl) rfl (by rfl) fun K hK => ?_
      go_simp
      refine hK _ _ (.inr hS) ?_
      clear hK K
      try simp only [List.getElem_toArray, List.getElem_cons_succ, List.getElem_cons_zero, Act.put, List.setIfInBounds_toArray, List.set_cons_zero, List.set_cons_succ]
      refine wpAnyF_freeT (i := 9) (v := ?_) rfl (by kernel_rfl) (by kernel_rfl) (by kernel_rfl) (by kernel_rfl) (by kernel_rfl) (fun _ _ _ h => h) (by rfl) ?_ hS ?_
      rotate_left
      · intro u
        go_simp
        try with_reducible rfl
      try simp only [List.getElem_toArray, List.getElem_cons_succ, List.getElem_cons_zero, Act.put, List.setIfInBounds_toArray, List.set_cons_zero, List.set_cons_succ]
      refine wpAnyF_freeT (i := 10) (v := ?_) rfl (by kernel_rfl) (by kernel_rfl) (by kernel_rfl) (by kernel_rfl) (by kernel_rfl) (fun _ _ _ h => h) (by rfl) ?_ hS ?_
      rotate_left
      · intro u
        go_simp
        try with_reducible rfl
      try simp only [List.getElem_toArray, List.getElem_cons_succ, List.getElem_cons_zero, Act.put, List.setIfInBounds_toArray, List.set_cons_zero, List.set_cons_succ]
      refine wpAnyF_freeT (i := 11) (v := ?_) rfl (by kernel_rfl) (by kernel_rfl) (by kernel_rfl) (by kernel_rfl) (by kernel_rfl) (fun _ _ _ h => h) (by rfl) ?_ hS ?_
      rotate_left
      · intro u
        go_simp
        try with_reducible rfl
      try simp only [List.getElem_toArray, List.getElem_cons_succ, List.getElem_cons_zero, Act.put, List.setIfInBounds_toArray, List.set_cons_zero, List.set_cons_succ]
      refine wpAnyF_step (i := 12) (by kernel_rfl) rfl (by rfl) fun K hK => ?_
      go_simp
      refine hK _ _ (.inr hS) ?_
      clear hK K
      try simp only [List.getElem_toArray, List.getElem_cons_succ, List.getElem_cons_zero, Act.put, List.setIfInBounds_toArray, List.set_cons_zero, List.set_cons_succ]
      refine wpAnyF_freeT (i := 13) (v := ?_) rfl (by kernel_rfl) (by kernel_rfl) (by kernel_rfl) (by kernel_rfl) (by kernel_rfl) (fun _ _ _ h => h) (by rfl) ?_ hS ?_
      rotate_left
      · intro u
        go_simp
        try with_reducible rfl
      try simp only [List.getElem_toArray, List.getElem_cons_succ, List.getElem_cons_zero, Act.put, List.setIfInBounds_toArray, List.set_cons_zero, List.set_cons_succ]
      refine wpAnyF_freeT (i := 14) (v := ?_) rfl (by kernel_rfl) (by kernel_rfl) (by kernel_rfl) (by kernel_rfl) (by kernel_rfl) (fun _ _ _ h => h) (by rfl) ?_ hS ?_
      rotate_left
      · intro u
        go_simp
        try with_reducible rfl
      try simp only [List.getElem_toArray, List.getElem_cons_succ, List.getElem_cons_zero, Act.put, List.setIfInBounds_toArray, List.set_cons_zero, List.set_cons_succ]
      refine wpAnyF_freeT (i := 15) (v := ?_) rfl (by kernel_rfl) (by kernel_rfl) (by kernel_rfl) (by kernel_rfl) (by kernel_rfl) (fun _ _ _ h => h) (by rfl) ?_ hS ?_
      rotate_left
      · intro u
        go_simp
        try with_reducible rfl
      try simp only [List.getElem_toArray, List.getElem_cons_succ, List.getElem_cons_zero, Act.put, List.setIfInBounds_toArray, List.set_cons_zero, List.set_cons_succ]
      refine wpAnyF_freeT (i := 16) (v := ?_) rfl (by kernel_rfl) (by kernel_rfl) (by kernel_rfl) (by kernel_rfl) (by kernel_rfl) (fun _ _ _ h => h) (by rfl) ?_ hS ?_
      rotate_left
      · intro u
        go_simp
        try with_reducible rfl
      try simp only [List.getElem_toArray, List.getElem_cons_succ, List.getElem_cons_zero, Act.put, List.setIfInBounds_toArray, List.set_cons_zero, List.set_cons_succ]
      refine wpAnyF_freeT (i := 17) (v := ?_) rfl (by kernel_rfl) (by kernel_rfl) (by kernel_rfl) (by kernel_rfl) (by kernel_rfl) (fun _ _ _ h => h) (by rfl) ?_ hS ?_
      rotate_left
      · intro u
        go_simp
        try with_reducible rfl
      try simp only [List.getElem_toArray, List.getElem_cons_succ, List.getElem_cons_zero, Act.put, List.setIfInBounds_toArray, List.set_cons_zero, List.set_cons_succ]
      refine wpAnyF_freeT (i := 18) (v := ?_) rfl (by kernel_rfl) (by kernel_rfl) (by kernel_rfl) (by kernel_rfl) (by kernel_rfl) (fun _ _ _ h => h) (by rfl) ?_ hS ?_
      rotate_left
      · intro u
        go_simp
        try with_reducible rfl
      try simp only [List.getElem_toArray, List.getElem_cons_succ, List.getElem_cons_zero, Act.put, List.setIfInBounds_toArray, List.set_cons_zero, List.set_cons_succ]
      refine wpAnyF_freeT (i := 19) (v := ?_) rfl (by kernel_rfl) (by kernel_rfl) (by kernel_rfl) (by kernel_rfl) (by kernel_rfl) (fun _ _ _ h => h) (by rfl) ?_ hS ?_
      rotate_left
      · intro u
        go_simp
        try with_reducible rfl
      try simp only [List.getElem_toArray, List.getElem_cons_succ, List.getElem_cons_zero, Act.put, List.setIfInBounds_toArray, List.set_cons_zero, List.set_cons_succ]
      refine wpAnyF_takeT (i := 20) (v := ?_) rfl (by kernel_rfl) (by kernel_rfl) (by kernel_rfl) (by kernel_rfl) (by kernel_rfl) (by kernel_rfl) (fun _ _ _ h => h) (by rfl) ?_ hS ?_
      rotate_left
      · intro u hu
        try simp only [List.getElem_toArray, List.getElem_cons_succ, List.getElem_cons_zero]
        refine Eq.trans (exec_load_row 42 _ rfl _ rfl 42 Q7 (0, 0) (.struct d) hu.2.2 HD.out rfl HI7.out) ?_
        with_reducible rfl
      try simp only [List.getElem_toArray, List.getElem_cons_succ, List.getElem_cons_zero, Act.put, List.setIfInBounds_toArray, List.set_cons_zero, List.set_cons_succ]
      refine wpAnyF_takeT (i := 21) (v := ?_) rfl (by kernel_rfl) (by kernel_rfl) (by kernel_rfl) (by kernel_rfl) (by kernel_rfl) (by kernel_rfl) (fun _ _ _ h => h) (by rfl) ?_ hS ?_
      rotate_left
      · intro u hu
        try simp only [List.getElem_toArray, List.getElem_cons_succ, List.getElem_cons_zero]
        refine Eq.trans (exec_load_row 42 _ rfl _ rfl 42 Q0 (0, 0) (.struct d) hu.2.1 HD.out rfl HI.out) ?_
        with_reducible rfl
      try simp only [List.getElem_toArray, List.getElem_cons_succ, List.getElem_cons_zero, Act.put, List.setIfInBounds_toArray, List.set_cons_zero, List.set_cons_succ]
      refine wpAnyF_step (i := 22) (by kernel_rfl) rfl (by rfl) fun K hK => ?_
      go_simp
      go_at_call 14
      refine (KS9.out wA iA).mono ?_
      rintro e wB ⟨rfl, nB⟩
      have iB : Nw w9 wB := Nw.trans iA nB
      clear nB
      have hS := HSW.out wB iB
      refine hK _ _ (.inr (HSW.out wB iB)) ?_
      clear hK K
      try simp only [List.getElem_toArray, List.getElem_cons_succ, List.getElem_cons_zero, Act.put, List.setIfInBounds_toArray, List.set_cons_zero, List.set_cons_succ]
      refine wpAnyF_freeT (i := 23) (v := ?_) rfl (by kernel_rfl) (by kernel_rfl) (by kernel_rfl) (by kernel_rfl) (by kernel_rfl) (fun _ _ _ h => h) (by rfl) ?_ hS ?_
      rotate_left
      · intro u
        go_simp
        try with_reducible rfl
      try simp only [List.getElem_toArray, List.getElem_cons_succ, List.getElem_cons_zero, Act.put, List.setIfInBounds_toArray, List.set_cons_zero, List.set_cons_succ]
      refine wpAnyF_freeT (i := 24) (v := ?_) rfl (by kernel_rfl) (by kernel_rfl) (by kernel_rfl) (by kernel_rfl) (by kernel_rfl) (fun _ _ _ h => h) (by rfl) ?_ hS ?_
      rotate_left
      · intro u
        go_simp
        try with_reducible rfl
      try simp only [List.getElem_toArray, List.getElem_cons_succ, List.getElem_cons_zero, Act.put, List.setIfInBounds_toArray, List.set_cons_zero, List.set_cons_succ]
      refine wpAnyF_step (i := 25) (by kernel_rfl) rfl (by rfl) fun K hK => ?_
      go_simp
      refine (known_any wB).mono ?_
      rintro e wC ⟨rfl, nC⟩
      have iC : Nw w9 wC := Nw.trans iB nC
      clear nC
      have hS := HSW.out wC iC
      refine hK _ _ (.inr (HSW.out wC iC)) ?_
      clear hK K
      try simp only [List.getElem_toArray, List.getElem_cons_succ, List.getElem_cons_zero, Act.put, List.setIfInBounds_toArray, List.set_cons_zero, List.set_cons_succ]
      refine wpAnyF_freeT (i := 26) (v := ?_) rfl (by kernel_rfl) (by kernel_rfl) (by kernel_rfl) (by kernel_rfl) (by kernel_rfl) (fun _ _ _ h => h) (by rfl) ?_ hS ?_
      rotate_left
      · intro u
        go_simp
        try with_reducible rfl
      try simp only [List.getElem_toArray, List.getElem_cons_succ, List.getElem_cons_zero, Act.put, List.setIfInBounds_toArray, List.set_cons_zero, List.set_cons_succ]
      refine wpAnyF_step (i := 27) (by kernel_rfl) rfl (by rfl) fun K hK => ?_
      go_simp
      refine hK _ _ (.inl (by kernel_rfl)) ?_
      clear hK K
      try simp only [List.getElem_toArray, List.getElem_cons_succ, List.getElem_cons_zero, Act.put, List.setIfInBounds_toArray, List.set_cons_zero, List.set_cons_succ]
      refine wpAnyF_done (by kernel_rfl) ?_ _
      go_wp2_with fail
      go_ret
      exact ⟨rfl, Nw.trans N9.out iC⟩
end Go.Proofs.Ytnbcjjgilndlaaa
