/- MessageReads: the walk of the law. Helper. -/
import Derived.Test.YtnbcjjgilndlaaaRdDocQ
import Derived.Test.YtnbcjjgilndlaaaRdDocS
import Derived.Test.YtnbcjjgilndlaaaRdPlQ
import Derived.Test.YtnbcjjgilndlaaaRdPlS
import Derived.Test.YtnbcjjgilndlaaaRdKnown
import Derived.Test.YtnbcjjgilndlaaaRdSm
namespace Go.Proofs.Ytnbcjjgilndlaaa
open Go.RowKit
set_option linter.unusedVariables false
set_option linter.unusedSimpArgs false
set_option maxRecDepth 100000
set_option maxHeartbeats 6400000
theorem rd_chg {M : Nat → Prop} {w w' : World} {A : Option Addr} {xs : List Value} (h : Rd w A xs) (hc : Chg M w w') (hA : ∀ a, A = some a → ¬ M a.block) : Rd w' A xs := by
  rcases h with h | ⟨b, off, rfl, hx⟩
  · exact .inl h
  · refine .inr ⟨b, off, rfl, fun j u hu => ?_⟩
    have h1 := hx j u hu
    have hlt := World.block_lt_of_cell? _ _ h1
    have hb := hc.block b hlt (hA _ rfl)
    unfold World.cell? at h1 ⊢
    rw [hb]
    exact h1
theorem reads_out (w : World) (A : Option Addr) (n c : Nat) (h : (5000 : Int) < (n : Int)) : Calls Try.prog 3 #[.slice A n c] w fun e w' => e = .returned (.bool true) ∧ Nw w w' := by
  go_enter Try.func3, Try.ntmps3
  go_wp2_with fail
  refine (known_any w).mono ?_
  rintro e w1 ⟨rfl, n1⟩
  have N1 := Lib.hid n1
  clear n1
  go_wp2_with fail
  go_ret
  exact ⟨rfl, N1.out⟩
theorem sizeQ (q : Rq) (A : Option Addr) (c : Nat) : (Try.prog.info? 33).map (·.size) = some (q.c A c).toArray.size := rfl
theorem sizeS (q : Rs) (A : Option Addr) (c : Nat) : (Try.prog.info? 42).map (·.size) = some (q.c A c).toArray.size := rfl
theorem oneQ (q : Rq) (A : Option Addr) (c : Nat) : (q.c A c).toArray.all (·.oneCell') = true := by simp [Rq.c, Value.oneCell']
theorem oneS (q : Rs) (A : Option Addr) (c : Nat) : (q.c A c).toArray.all (·.oneCell') = true := by simp [Rs.c, Value.oneCell']
theorem dec7Q_small (bs : List UInt8) (h : bs.length ≤ 5000) : (dec7Q bs).1.md.length ≤ 9223372036854775807 := by
  have hr : ∀ k (l : List UInt8), l.length ≤ 5000 → (rawQ k l).md.length ≤ 5000 := by
    intro k l hl
    unfold rawQ
    repeat' split
    all_goals simp [Rq.zero]
    all_goals omega
  cases bs with
  | nil => simp [dec7Q, Rq.zero]
  | cons x l =>
    have hl : l.length ≤ 5000 := by simp at h; omega
    have := hr x.toNat l hl
    simp only [dec7Q]
    repeat' split
    all_goals first | omega | (simp [Rq.zero]; done) | (dsimp only; omega)
theorem dec7S_small (bs : List UInt8) : (dec7S bs).1.vs.length ≤ 9223372036854775807 := by
  have hr : ∀ k (l : List UInt8), (rawS k l).vs.length ≤ 8 := by
    intro k l
    unfold rawS
    repeat' split
    all_goals first | (simp [Rs.zero]; done) | (simp [Rs.zero, nums]; omega)
  cases bs with
  | nil => simp [dec7S, Rs.zero]
  | cons x l =>
    have := hr x.toNat l
    simp only [dec7S]
    repeat' split
    all_goals first | omega | (simp [Rs.zero]; done) | (dsimp only; omega)
/-- What was copied lies apart, and is written over. -/
structure OwnAt (w5 wr : World) (A1 : Option Addr) (blk : Option Nat) (l : List Value) (i n : Nat) : Prop where
  c : Chg (fun k => some k = blk) w5 wr
  b : ∀ g, blk = some g → ∃ cur off, A1 = some ⟨g, off, none⟩ ∧ Blk wr g 5 cur ∧ ∀ j, i ≤ j → j < n → cur[off + j]? = l[j]?
theorem reads_in (w : World) (A : Option Addr) (n c : Nat) (bs : List UInt8) (hb : BytesAt w A bs) (hn : bs.length = n) (hl : n ≤ 5000) (hc : n ≤ c) :
    Calls Try.prog 3 #[.slice A n c] w fun e w' => e = .returned (.bool true) ∧ Nw w w' := by
  obtain ⟨i0, hi0, hz0, hz1, hz2⟩ := info_parts infoU8
  have HL1 := Lib.hid hi0
  have HL2 := Lib.hid hz0
  have HL3 := Lib.hid hz1
  have HL4 := Lib.hid hz2
  have HB := Lib.hid hb
  have HH := Lib.hid (And.intro hn (And.intro hl hc))
  have h5 : ¬ (5000 : Int) < (n : Int) := by omega
  obtain ⟨d, hd⟩ := stRq
  have HD := Lib.hid hd
  obtain ⟨ds, hds⟩ := stRs
  have HDS := Lib.hid hds
  clear hi0 hz0 hz1 hz2 hb hn hl hc hd hds
  obtain ⟨D, hD⟩ : ∃ D, dec7Q bs = D := ⟨_, rfl⟩
  obtain ⟨E, hE⟩ : ∃ E, dec7S bs = E := ⟨_, rfl⟩
  have KQ := Lib.hid (fun W A' c' (h : BytesAt W A' bs) (hc : n ≤ c') => by have := ourQ_any W A' n c' bs h HH.out.1 hc (by have := HH.out.2.1; omega); rw [hD] at this; exact this)
  have KS := Lib.hid (fun W A' c' (h : BytesAt W A' bs) (hc : n ≤ c') => by have := ourS_any W A' n c' bs h HH.out.1 hc (by have := HH.out.2.1; omega); rw [hE] at this; exact this)
  have RQ := Lib.hid (fun W A' c' (h : BytesAt W A' bs) (hc : n ≤ c') => by have := dec7_any W A' n c' bs h HH.out.1 hc (by have := HH.out.2.1; omega); rw [hD] at this; exact this)
  have RS := Lib.hid (fun W A' c' (h : BytesAt W A' bs) (hc : n ≤ c') => by have := dec7s_any W A' n c' bs h HH.out.1 hc (by have := HH.out.2.1; omega); rw [hE] at this; exact this)
  have HMQ := Lib.hid (show D.1.md.length ≤ 9223372036854775807 by rw [← hD]; exact dec7Q_small bs (by have := HH.out; omega))
  have HMS := Lib.hid (show E.1.vs.length ≤ 9223372036854775807 by rw [← hE]; exact dec7S_small bs)
  clear hD hE
  go_enter Try.func3, Try.ntmps3
  go_upto_region 3 with (fail)
  go_upto_region 4 with (at_builtin; refine wpList_append_at w rfl _ _ _ rfl 5 i0 _ 1 1 Try.underlying22 HL1.out HL2.out HL3.out HL4.out rfl (by omega) _ 0 [] none rfl (Own.nil _ _ _) _ n c (bcells bs) rfl (by rw [bcells_length]; have := HH.out; omega) HB.out (bcells_one _) (by have := HH.out; simp only [maxLen]; omega) (by have := HH.out; omega) ?_; intro A1 c1 w1 blk1 hown hchg hat; simp only [Nat.zero_add, List.nil_append] at hown ⊢; have hn1 : Nw w w1 := hchg.below (fun i _ q => by cases q) (Nat.le_refl _); have HO1 := Lib.hid hown; have HT1 := Lib.hid hat; have N1 := Lib.hid hn1; clear hown hchg hat hn1)
  have HY1 := Lib.hid (show BytesAt w1 A1 bs ∧ n ≤ c1 by
    obtain ⟨_, _, e2, hrd, hnc, _⟩ := HO1.out.rd
    injection e2 with e3 _ e4
    subst e3 e4
    exact ⟨hrd, hnc⟩)
  go_wp2_with fail
  refine (KQ.out w1 A1 c1 HY1.out.1 HY1.out.2).mono ?_
  rintro e w2 ⟨QA, qc, rfl, hq2, n2, f2⟩
  have H2 := Lib.hid (And.intro hq2 (And.intro n2 f2))
  clear hq2 n2 f2
  go_upto_region 5 with (refine wpList_store_row rfl 33 _ _ rfl w2.heap.size (D.1.c QA qc).toArray rfl rfl 33 _ (heap_last _ _ rfl) (sizeQ _ _ _) rfl (oneQ _ _ _) ?_; rw [setRow_last _ _ _ _ rfl])
  obtain ⟨w3, hw3⟩ : ∃ W, w2.alloc (.cells (D.1.c QA qc).toArray 33) = W := ⟨_, rfl⟩
  obtain ⟨P4, hP4⟩ : ∃ P, w2.heap.size = P := ⟨_, rfl⟩
  rw [hw3, hP4]
  have B4 := Lib.hid (show Blk w3 P4 33 (D.1.c QA qc).toArray by rw [← hw3]; exact Blk.last _ _ _ hP4)
  have N3 := Lib.hid (show Nw w1 w3 by rw [← hw3]; exact H2.out.2.1.alloc _)
  have Q3 := Lib.hid (show BytesAt w3 QA D.1.md by rw [← hw3]; exact Rd.nw H2.out.1 ((Nw.refl w2).alloc _))
  have S3 := Lib.hid (show w1.heap.size ≤ P4 by rw [← hP4]; exact H2.out.2.1.size)
  clear hw3 hP4
  go_wp2_with fail
  refine (KS.out w3 A1 c1 (Rd.nw HY1.out.1 N3.out) HY1.out.2).mono ?_
  rintro e w4 ⟨SA, sc, rfl, hs4, n4, f4⟩
  have H4 := Lib.hid (And.intro hs4 (And.intro n4 f4))
  clear hs4 n4 f4
  go_upto_region 6 with (refine wpList_store_row rfl 42 _ _ rfl w4.heap.size (E.1.c SA sc).toArray rfl rfl 42 _ (heap_last _ _ rfl) (sizeS _ _ _) rfl (oneS _ _ _) ?_; rw [setRow_last _ _ _ _ rfl])
  obtain ⟨w5, hw5⟩ : ∃ W, w4.alloc (.cells (E.1.c SA sc).toArray 42) = W := ⟨_, rfl⟩
  obtain ⟨P6, hP6⟩ : ∃ P, w4.heap.size = P := ⟨_, rfl⟩
  rw [hw5, hP6]
  have n5 : Nw w3 w5 := by rw [← hw5]; exact H4.out.2.1.alloc _
  have B6 := Lib.hid (show Blk w5 P6 42 (E.1.c SA sc).toArray by rw [← hw5]; exact Blk.last _ _ _ hP6)
  have B45 := Lib.hid (B4.out.below n5 B4.out.lt)
  have S5 := Lib.hid (show IntsAt w5 SA E.1.vs by rw [← hw5]; exact Rd.nw H4.out.1 ((Nw.refl w4).alloc _))
  have Q5 := Lib.hid (show BytesAt w5 QA D.1.md from Rd.nw Q3.out n5)
  have T5 := Lib.hid (show w3.heap.size ≤ P6 by rw [← hP6]; exact H4.out.2.1.size)
  have N5 := Lib.hid (show Nw w1 w5 from Nw.trans N3.out n5)
  have s1 := BytesAt.str (show BytesAt w5 A1 bs from Rd.nw HY1.out.1 N5.out) 22 5 9 c1 Try.underlying22 Try.underlying5 Try.underlying9
  have s2 := BytesAt.str (show BytesAt w5 A bs from Rd.nw HB.out (Nw.trans N1.out N5.out)) 22 5 9 c Try.underlying22 Try.underlying5 Try.underlying9
  rw [HH.out.1] at s1 s2
  have HO5 := Lib.hid (HO1.out.kept fun g hg => N5.out.block g (HO1.out.lt g hg))
  clear hw5 hP6 n5
  go_upto_region 9 with (fail)
  clear s1 s2
  go_loopw [8] (fun y wr => ∃ i : Nat, i ≤ n ∧ y = .int .i64 (i : Int) ∧ Hid (OwnAt w5 wr A1 blk1 (bcells bs) i n)) (fun y _ => n - (intOf y).toNat)
  case atStart =>
    refine ⟨0, Nat.zero_le _, rfl, Lib.hid ⟨Chg.refl _ _, fun g hg => ?_⟩⟩
    obtain ⟨hl, A', c', e1, hn, hm, h | ⟨g', off, cur, e2, e3, hg2, h1, h2⟩⟩ := HO5.out
    · rw [h.2] at hg; cases hg
    · injection e1 with e1 _ e4
      rw [e3] at hg
      injection hg with hg
      subst hg e1
      refine ⟨cur, off, e2, hg2, fun j _ hj => ?_⟩
      rw [← h2, List.getElem?_take, if_pos (by omega), List.getElem?_drop]
      simp
  case round =>
    obtain ⟨i, hi, rfl, HI⟩ := hrel
    by_cases hlt : i < n
    · have i1 : (i : Int) < (n : Int) := by omega
      have i2 : (i : Int) ≤ 5000 := by have := HH.out.2.1; omega
      obtain ⟨g, hg⟩ : ∃ g, blk1 = some g := by
        obtain ⟨hl, A', c', e1, hn, hm, h | ⟨g', off, cur, e2, e3, _⟩⟩ := HO5.out
        · have := HY1.out.2; injection e1 with _ _ e4; have := h.1; omega
        · exact ⟨g', e3⟩
      obtain ⟨cur, off, rfl, hblk, hcur⟩ := HI.out.b g hg
      have hx : cur[off + i]? = some (.int .u8 ((bs[i]'(by rw [HH.out.1]; exact hlt)).toNat : Int)) := by
        rw [hcur i (Nat.le_refl _) hlt]
        simp [bcells, HH.out.1, hlt]
      obtain ⟨x, hxe⟩ : ∃ x : Int, ((bs[i]'(by rw [HH.out.1]; exact hlt)).toNat : Int) = x := ⟨_, rfl⟩
      rw [hxe] at hx
      have cx : wr.cell? ⟨g, off + i, none⟩ = some (.int .u8 x) := (hblk.cell _).trans hx
      have zx := hblk.frozen (off + i)
      have hgl := hblk.lt
      have HK := Lib.hid (And.intro hblk hcur)
      have HG := Lib.hid hg
      clear hblk hcur hx hxe hg
      go_wp2_with fail
      refine ⟨⟨i + 1, hlt, by go_num, Lib.hid ⟨?_, fun g' hg' => ?_⟩⟩, by simp [intOf]; omega⟩
      · exact HI.out.c.setCell (.inl HG.out.symm) _
      · rw [HG.out] at hg'
        injection hg' with hg'
        subst hg'
        refine ⟨_, off, rfl, HK.out.1.set_ (off + i) _, fun j h1 h2 => ?_⟩
        rw [Array.getElem?_setIfInBounds_ne (by omega)]
        exact HK.out.2 j (by omega) h2
    · have i1 : ¬ (i : Int) < (n : Int) := by omega
      have HC := Lib.hid HI.out.c
      have hblk : ∀ g, blk1 = some g → w.heap.size ≤ g ∧ g < w1.heap.size := fun g hg => ⟨by rcases HT1.out with q | q <;> rw [q] at hg <;> first | (injection hg with hg; omega) | (cases hg), HO1.out.lt g hg⟩
      have HBK := Lib.hid hblk
      have HNW := Lib.hid (show Nw w wr from Below.trans (Nw.trans N1.out N5.out) (HC.out.below (fun k hk hq => (hblk k hq.symm).1) (Nw.trans N1.out N5.out).size))
      have e1 := N3.out.size
      have e2 := S3.out
      have e3 := T5.out
      have e4 := B4.out.lt
      have C4 := Lib.hid (B45.out.chg HC.out (fun h => by have := (hblk P4 h.symm).2; omega))
      have C6 := Lib.hid (B6.out.chg HC.out (fun h => by have := (hblk P6 h.symm).2; omega))
      have CQ := Lib.hid (show BytesAt wr QA D.1.md from rd_chg Q5.out HC.out (fun a ha h => by have := (hblk _ h.symm).2; have := H2.out.2.2 a ha; omega))
      have CS := Lib.hid (show IntsAt wr SA E.1.vs from rd_chg S5.out HC.out (fun a ha h => by have := (hblk _ h.symm).2; have := H4.out.2.2 a ha; omega))
      clear hblk e1 e2 e3 e4
      go_wp2_with fail
      refine (RQ.out wr A c (Rd.nw HB.out HNW.out) HH.out.2.2).mono ?_
      rintro e w6 ⟨VA, vc, rfl, hv6, n6⟩
      have H6 := Lib.hid (And.intro hv6 n6)
      clear hv6 n6
      go_upto_region 13 with (refine wpList_store_row rfl 33 _ _ rfl w6.heap.size (D.1.c VA vc).toArray rfl rfl 33 _ (heap_last _ _ rfl) (sizeQ _ _ _) rfl (oneQ _ _ _) ?_; rw [setRow_last _ _ _ _ rfl])
      obtain ⟨w7, hw7⟩ : ∃ W, w6.alloc (.cells (D.1.c VA vc).toArray 33) = W := ⟨_, rfl⟩
      obtain ⟨P9, hP9⟩ : ∃ P, w6.heap.size = P := ⟨_, rfl⟩
      rw [hw7, hP9]
      have B9 := Lib.hid (show Blk w7 P9 33 (D.1.c VA vc).toArray by rw [← hw7]; exact Blk.last _ _ _ hP9)
      have N7 := Lib.hid (show Nw wr w7 by rw [← hw7]; exact H6.out.2.alloc _)
      have V7 := Lib.hid (show BytesAt w7 VA D.1.md by rw [← hw7]; exact Rd.nw H6.out.1 ((Nw.refl w6).alloc _))
      clear hw7 hP9
      go_wp2_with fail
      refine (RS.out w7 A c (Rd.nw HB.out (Nw.trans HNW.out N7.out)) HH.out.2.2).mono ?_
      rintro e w8 ⟨UA, uc, rfl, hu8, n8⟩
      have H8 := Lib.hid (And.intro hu8 n8)
      clear hu8 n8
      go_upto_region 14 with (refine wpList_store_row rfl 42 _ _ rfl w8.heap.size (E.1.c UA uc).toArray rfl rfl 42 _ (heap_last _ _ rfl) (sizeS _ _ _) rfl (oneS _ _ _) ?_; rw [setRow_last _ _ _ _ rfl])
      obtain ⟨w9, hw9⟩ : ∃ W, w8.alloc (.cells (E.1.c UA uc).toArray 42) = W := ⟨_, rfl⟩
      obtain ⟨P11, hP11⟩ : ∃ P, w8.heap.size = P := ⟨_, rfl⟩
      rw [hw9, hP11]
      have n79 : Nw w7 w9 := by rw [← hw9]; exact H8.out.2.alloc _
      have n9 : Nw wr w9 := Nw.trans N7.out n79
      have G11 := Lib.hid (show Blk w9 P11 42 (E.1.c UA uc).toArray by rw [← hw9]; exact Blk.last _ _ _ hP11)
      have G9 := Lib.hid (B9.out.below n79 B9.out.lt)
      have G4 := Lib.hid (C4.out.below n9 C4.out.lt)
      have G6 := Lib.hid (C6.out.below n9 C6.out.lt)
      have GU := Lib.hid (show IntsAt w9 UA E.1.vs by rw [← hw9]; exact Rd.nw H8.out.1 ((Nw.refl w8).alloc _))
      have GV := Lib.hid (show BytesAt w9 VA D.1.md from Rd.nw V7.out n79)
      have GQ := Lib.hid (show BytesAt w9 QA D.1.md from Rd.nw CQ.out n9)
      have GS := Lib.hid (show IntsAt w9 SA E.1.vs from Rd.nw CS.out n9)
      have N9 := Lib.hid (Nw.trans HNW.out n9)
      clear hw9 hP11 n79 n9
      go_wp2_with (first | (refine wpList_load_row_g rfl 33 _ rfl P4 rfl 33 (D.1.c QA qc).toArray (0, 0) (.struct d) G4.out HD.out rfl (sizeQ _ _ _) ?_) | (refine wpList_load_row_g rfl 33 _ rfl P9 rfl 33 (D.1.c VA vc).toArray (0, 0) (.struct d) G9.out HD.out rfl (sizeQ _ _ _) ?_))
      refine (refRq_any w9 D.1 D.1 QA VA qc vc GQ.out GV.out HMQ.out HMQ.out).mono ?_
      rintro e wA ⟨rfl, nA⟩
      rw [decide_eq_true rfl]
      have F6 := Lib.hid (G6.out.below nA G6.out.lt)
      have F11 := Lib.hid (G11.out.below nA G11.out.lt)
      have FU := Lib.hid (show IntsAt wA UA E.1.vs from Rd.nw GU.out nA)
      have FS := Lib.hid (show IntsAt wA SA E.1.vs from Rd.nw GS.out nA)
      have NA := Lib.hid (Nw.trans N9.out nA)
      clear nA
      go_wp2_with (first | (refine wpList_load_row_g rfl 42 _ rfl P6 rfl 42 (E.1.c SA sc).toArray (0, 0) (.struct ds) F6.out HDS.out rfl (sizeS _ _ _) ?_) | (refine wpList_load_row_g rfl 42 _ rfl P11 rfl 42 (E.1.c UA uc).toArray (0, 0) (.struct ds) F11.out HDS.out rfl (sizeS _ _ _) ?_))
      refine (refRs_any wA E.1 E.1 SA UA sc uc FS.out FU.out HMS.out HMS.out).mono ?_
      rintro e wB ⟨rfl, nB⟩
      rw [decide_eq_true rfl]
      have NB := Lib.hid (Nw.trans NA.out nB)
      clear nB
      go_wp2_with fail
      refine (known_any wB).mono ?_
      rintro e wC ⟨rfl, nC⟩
      have NC := Lib.hid (Nw.trans NB.out nC)
      clear nC
      go_wp2_with fail
      go_ret
      exact ⟨rfl, NC.out⟩
end Go.Proofs.Ytnbcjjgilndlaaa
