/- Messages: what ours encodes, of any response. Helper. -/
import Derived.Test.YtnbcjjgilndlaaaTlVrw
import Derived.Test.YtnbcjjgilndlaaaAkEnc
import Derived.Test.YtnbcjjgilndlaaaRdPlS
import Derived.Test.YtnbcjjgilndlaaaRdSameS
import Derived.Test.YtnbcjjgilndlaaaRdDec0
namespace Go.Proofs.Ytnbcjjgilndlaaa
open Go.RowKit
set_option linter.unusedVariables false
set_option linter.unusedSimpArgs false
set_option maxRecDepth 100000
set_option maxHeartbeats 6400000
theorem ints_blk {w : World} {A : Option Addr} {l : List Int} (h : IntsAt w A l) : l = [] ∨ ∀ a, A = some a → a.block < w.heap.size := by
  rcases h with h | ⟨b, off, rfl, h⟩
  · left; simpa using h
  · cases l with
    | nil => exact .inl rfl
    | cons x l =>
      right
      intro a ha
      injection ha with ha
      subst ha
      exact World.block_lt_of_cell? _ _ (h 0 _ rfl)
theorem dec7S_vs (bs : List UInt8) : (dec7S bs).1.vs.length ≤ 8 := by
  have hr : ∀ k (l : List UInt8), (rawS k l).vs.length ≤ 8 := by
    intro k l
    unfold rawS
    repeat' split
    all_goals first | (simp [Rs.zero]; done) | (simp [Rs.zero, nums]; omega)
  cases bs with
  | nil => simp [dec7S, Rs.zero]
  | cons x l =>
    have := hr x.toNat l
    simp only [dec7S]
    repeat' split
    all_goals first | omega | (simp [Rs.zero]; done) | (dsimp only; omega)
open Classical in
/-- What ours encodes, of the parts that a kind names. -/
noncomputable def encRS (k : UInt8) (q : Rs) (ps : List WPart) : Option (List UInt8) :=
  if (∀ p ∈ ps, p.ok) ∧ dec7S (k :: (ps.map (·.add)).flatten) = (q, 0) then some (k :: (ps.map (·.add)).flatten) else none
theorem encS_of (kx : Nat) (hkx : 1 ≤ kx ∧ kx ≤ 5) (q : Rs) (hk : q.k = kx) (hq : q.Fit) (A : Option Addr) (c : Nat) (i t np : Nat) (row : Array Value) (ps : List WPart) (hnp : ps.length = np) (hps : ∀ p ∈ ps, p ∈ allS q) (kb : UInt8) (hkb : (kb.toNat : Int) = kx)
    (hlk : ∀ S, Instr.findNow (.int .i64) (.int .i64 kx) (tellsES S).toArray.toList 0 = some (some (i, .slice (some ⟨S + t, 0, none⟩) np np))) (hrow : ∀ W S, tellsAt W S → Blk W (S + t) 116 row) (hrw : ∀ j (h : j < ps.length), row[j]? = some (.func (.func ps[j].f) #[] #[]))
    (hlen : ∀ i, ([kb] ++ ((ps.take i).map (·.add)).flatten).length ≤ 80000) (hl9 : np ≤ 9) (w : World) (hb : IntsAt w A q.vs) :
    Calls Try.prog 21 #[.agg #[.int .i64 q.k, .int .u32 q.id, .int .i64 q.er, .int .i64 q.fl, .slice A q.vs.length c, .int .i64 q.rT, .int .i64 q.rO, .int .i64 q.rS, .int .i64 q.rp, .int .i64 q.rn, .int .i64 q.rv, .int .u32 q.nu, .int .i64 q.T, .int .i64 q.O, .int .i64 q.S, .int .i64 q.tt, .int .i64 q.kd, .int .i64 q.da]] w (EncF w (encRS kb q ps)) := by
  obtain ⟨Q0, hQ0⟩ : ∃ Q0 : Array Value, #[.int .i64 q.k, .int .u32 q.id, .int .i64 q.er, .int .i64 q.fl, .slice A q.vs.length c, .int .i64 q.rT, .int .i64 q.rO, .int .i64 q.rS, .int .i64 q.rp, .int .i64 q.rn, .int .i64 q.rv, .int .u32 q.nu, .int .i64 q.T, .int .i64 q.O, .int .i64 q.S, .int .i64 q.tt, .int .i64 q.kd, .int .i64 q.da] = Q0 := ⟨_, rfl⟩
  have HQ0 := Lib.hid (show Q0[0]? = some (.int .i64 kx) ∧ Q0.size = 18 ∧ Q0.all (·.oneCell') = true ∧ Q0 = (q.c A c).toArray by rw [← hQ0, ← hk]; exact ⟨rfl, rfl, by simp [Value.oneCell'], rfl⟩)
  obtain ⟨n, hn⟩ : ∃ n, q.vs.length = n := ⟨_, rfl⟩
  obtain ⟨w1, hw1⟩ : ∃ w1, w.alloc (.cells Q0 42) = w1 := ⟨_, rfl⟩
  have hM : Blk w1 w.heap.size 42 Q0 := by rw [← hw1]; exact Blk.last w _ _ rfl
  have n1 : Nw w w1 := by rw [← hw1]; exact (Nw.refl w).alloc _
  have s1 : w1.heap.size = w.heap.size + 1 := by rw [← hw1]; simp
  have k0 : w1.cell? ⟨w.heap.size, 0, none⟩ = some (.int .i64 kx) := (hM.cell 0).trans HQ0.out.1
  obtain ⟨d, hd⟩ := stRs
  have HD := Lib.hid hd
  have HI := Lib.hid (show (Try.prog.info? 42).map (·.size) = some Q0.size by rw [HQ0.out.2.1]; kernel_rfl)
  have HZ := Lib.hid (show (#[.int .i64 0, .int .u32 0, .int .i64 0, .int .i64 0, .slice none 0 0, .int .i64 0, .int .i64 0, .int .i64 0, .int .i64 0, .int .i64 0, .int .i64 0, .int .u32 0, .int .i64 0, .int .i64 0, .int .i64 0, .int .i64 0, .int .i64 0, .int .i64 0] : Array Value).size = Q0.size by rw [HQ0.out.2.1]; rfl)
  have HW1 := Lib.hid hw1
  have HM := Lib.hid hM
  have N1 := Lib.hid n1
  have S1 := Lib.hid s1
  have KA := Lib.hid (fun (W : World) (hs : W.heap.size = w.heap.size + 1) => by have := tells_any W; rw [hs] at this; exact this)
  have HBI := Lib.hid hb
  have HN := Lib.hid (show q.vs.length = n ∧ n ≤ 1000 from ⟨hn, by have := hq.vl; omega⟩)
  obtain ⟨r, hr⟩ : ∃ r, encRS kb q ps = r := ⟨_, rfl⟩
  rw [hQ0, hr]
  have jb : IntKind.u8.wrap (kx : Int) = (kx : Int) := by rw [IntKind.wrap_u8]; omega
  have HR := Lib.hid hr
  have HFIT := Lib.hid hq
  have HPS := Lib.hid (And.intro hps (And.intro hrw hlen))
  have HNP := Lib.hid (And.intro hnp hl9)
  have HKB := Lib.hid hkb
  have HLK := Lib.hid hlk
  have HRW := Lib.hid hrow
  clear hw1 hM n1 s1 hQ0 hr hq hps hnp hkb hb hlk hrow hrw hlen hk hkx hl9 hn hd
  go_enter Try.func21, Try.ntmps21
  go_upto_region 1 with (fail)
  rw [HW1.out]
  go_cut [4, 5] from 10 to 17 (fun s4 s5 wx => s4 = .slice (some ⟨w.heap.size + 1 + t, 0, none⟩) np np ∧ s5 = .bool true ∧ Hid (Nw w1 wx ∧ tellsAt wx (w.heap.size + 1)))
  case first =>
   as_aux_lemma =>
    go_region_with (go_at_call 31; refine (KA.out w1.drew S1.out).mono ?_; rintro e w4 ⟨rfl, h4, b4⟩; have i4 : Nw w1 w4 := Nw.step (show Nw w1 w1.drew from (Nw.refl w1).drew) (by have hs : w1.drew.heap.size = w.heap.size + 1 := S1.out; rw [hs]; exact b4); have kk := i4.cell k0; have lk := look_run Try.underlying80 Try.underlying37 h4.tab kx _ _ (HLK.out _); have H4 := Lib.hid h4; have I4 := Lib.hid i4; clear h4 i4 b4)
    all_goals
      go_wp2_with fail
      go_meet
      exact ⟨rfl, rfl, Lib.hid ⟨I4.out, H4.out⟩⟩
  case rest =>
    obtain ⟨rfl, rfl, HX⟩ := hcut
    clear k0
    have HXN := Lib.hid HX.out.1
    have HTB := Lib.hid (HRW.out _ _ HX.out.2)
    have b1 : Blk wc w.heap.size 42 Q0 := HM.out.below HXN.out HM.out.lt
    have u4 : wc.cell? ⟨w.heap.size, 4, none⟩ = some (.slice A n c) := (b1.cell 4).trans (by rw [HQ0.out.2.2.2, ← HN.out.1]; rfl)
    obtain ⟨w2, hw2⟩ : ∃ W, wc.alloc (.cells Q0 42) = W := ⟨_, rfl⟩
    obtain ⟨M, hMe⟩ : ∃ G, wc.heap.size = G := ⟨_, rfl⟩
    have b21 : Blk w2 w.heap.size 42 Q0 := by rw [← hw2]; exact b1.alloc _
    have b22 : Blk w2 M 42 Q0 := by rw [← hw2]; exact Blk.last wc _ _ hMe
    have n2 : Nw wc w2 := by rw [← hw2]; exact (Nw.refl wc).alloc _
    have u42 : w2.cell? ⟨w.heap.size, 4, none⟩ = some (.slice A n c) := n2.cell u4
    have m42 : w2.cell? ⟨M, 4, none⟩ = some (.slice A n c) := (b22.cell 4).trans (by rw [HQ0.out.2.2.2, ← HN.out.1]; rfl)
    have zm := b22.frozen 4
    have HG := Lib.hid (show w.heap.size < M by rw [← hMe]; exact b1.lt)
    have KC := Lib.hid (cloneI_any w2 A n c q.vs (Rd.nw HBI.out (Nw.trans N1.out (Nw.trans HXN.out n2))) HN.out.1 (by have := HN.out; omega))
    have HW2 := Lib.hid (And.intro hw2 hMe)
    have B1 := Lib.hid b1
    have B21 := Lib.hid b21
    have B22 := Lib.hid b22
    have N2 := Lib.hid n2
    clear b1 b21 b22 n2 hw2 hMe u4
    go_upto_region 3 with (first | (refine wpList_load_row rfl 42 _ rfl w.heap.size rfl 42 Q0 (0, 0) (.struct d) B1.out HD.out rfl HI.out ?_) | (refine wpList_store_row rfl 42 _ _ rfl wc.heap.size Q0 rfl rfl 42 _ (heap_last _ _ rfl) HI.out HZ.out HQ0.out.2.2.1 ?_; rw [setRow_last _ _ _ _ rfl]))
    rw [HW2.out.1, HW2.out.2]
    go_wp2_with fail
    refine KC.out.mono ?_
    rintro e w3 ⟨A1, c1, rfl, hi3, hc1, n3, hfar⟩
    have b33 : Blk w3 M 42 Q0 := B22.out.below n3 B22.out.lt
    have m43 : w3.cell? ⟨M, 4, none⟩ = some (.slice A n c) := n3.cell m42
    have zm3 := b33.frozen 4
    have lt3 : q.vs = [] ∨ ∀ a, A1 = some a → a.block < w3.heap.size ∧ w2.heap.size ≤ a.block := by
      rcases hfar with h | ⟨g, o, rfl, hg⟩
      · exact .inl h
      · rcases ints_blk hi3 with h | h
        · exact .inl h
        · exact .inr fun a ha => ⟨h a ha, by injection ha with ha; subst ha; exact hg⟩
    obtain ⟨w4, hw4⟩ : ∃ W, w3.setCell ⟨M, 4, none⟩ (.slice A1 n c1) = W := ⟨_, rfl⟩
    obtain ⟨Q3, hQ3⟩ : ∃ Q, (q.c A1 c1).toArray = Q := ⟨_, rfl⟩
    have b43 : Blk w4 M 42 Q3 := by
      have h := b33.set_ 4 (.slice A1 n c1)
      rw [hw4] at h
      have e : Q0.setIfInBounds 4 (.slice A1 n c1) = Q3 := by rw [HQ0.out.2.2.2, ← hQ3, ← HN.out.1]; rfl
      rw [e] at h; exact h
    have b41 : Blk w4 w.heap.size 42 Q0 := by
      rw [← hw4]
      exact (B21.out.below n3 B21.out.lt).far (p := ⟨M, 4, none⟩) (by have := HG.out; show w.heap.size ≠ M; omega) _
    have n4 : Nw wc w4 := by
      rw [← hw4]
      exact (Nw.trans N2.out n3).set (by have := HW2.out.2; show wc.heap.size ≤ M; omega) _
    have hM2 : M < w2.heap.size := B22.out.lt
    have s34 : w4.heap.size = w3.heap.size := by rw [← hw4]; simp
    have hi4 : IntsAt w4 A1 q.vs := by
      rcases lt3 with h | h
      · rw [h]; exact .inl rfl
      · rw [← hw4]
        exact ints_chg hi3 (M := fun i => i = M) (.inr fun a ha => ⟨(h a ha).1, fun e => by have := (h a ha).2; have e : a.block = M := e; omega⟩) ((Chg.refl (fun i => i = M) w3).setCell (p := ⟨M, 4, none⟩) (.inl rfl) _)
    obtain ⟨w5, hw5⟩ : ∃ W, (w4.alloc (.cells #[.int .u8 (kx : Int)] 5)).alloc (.cells #[.slice (some ⟨w4.heap.size, 0, none⟩) 1 1, .bool false] 76) = W := ⟨_, rfl⟩
    obtain ⟨P, hP⟩ : ∃ P, w4.heap.size + 1 = P := ⟨_, rfl⟩
    have n5 : Nw w4 w5 := by rw [← hw5]; exact ((Nw.refl w4).alloc _).alloc _
    have pen5 : PenW w5 P [kb] (some w4.heap.size) := by
      rw [← hw5, ← hP]
      refine ⟨some ⟨w4.heap.size, 0, none⟩, 1, Blk.last _ _ _ (by simp), ?_⟩
      rw [← HKB.out]
      exact (own7 w4 kb rfl).kept fun g hg => by injection hg with hg; rw [← hg]; exact Below.heap_alloc _ _ _ (by simp)
    have HPA := Lib.hid (show (∀ a, A1 = some a → w2.heap.size ≤ a.block ∧ a.block < w4.heap.size) ∨ q.vs = [] from lt3.elim .inr fun h => .inl fun a ha => ⟨(h a ha).2, by rw [s34]; exact (h a ha).1⟩)
    have HQ3 := Lib.hid (show Q3 = (q.c A1 c1).toArray from hQ3.symm)
    have HW4 := Lib.hid hw4
    have HW5 := Lib.hid (And.intro hw5 hP)
    have B51 := Lib.hid (b41.below n5 b41.lt)
    have B53 := Lib.hid (b43.below n5 b43.lt)
    have N4 := Lib.hid n4
    have N5 := Lib.hid (Nw.trans n4 n5)
    have I5 := Lib.hid (show IntsAt w5 A1 q.vs from Rd.nw hi4 n5)
    have PEN5 := Lib.hid pen5
    have HSZ := Lib.hid (show M < w2.heap.size ∧ w2.heap.size ≤ w4.heap.size from ⟨hM2, by rw [s34]; exact n3.size⟩)
    have v5 : w4.cell? ⟨w.heap.size, 0, none⟩ = some (.int .i64 kx) := (b41.cell 0).trans HQ0.out.1
    clear hi3 hc1 n3 hfar b33 lt3 hw4 hQ3 b43 b41 n4 hM2 s34 hi4 hw5 hP n5 pen5 m42 zm u42
    go_upto_region 4 with (fail)
    rw [HW4.out]
    clear m43 zm3
    go_upto_region 5 with (fail)
    rw [HW5.out.1, HW5.out.2]
    clear v5
    have HTB5 := Lib.hid (HTB.out.below N5.out HTB.out.lt)
    have hsz : w.heap.size + 1 + t < wc.heap.size := HTB.out.lt
    have hPM : w4.heap.size + 1 = P ∧ wc.heap.size = M ∧ M < w4.heap.size := ⟨HW5.out.2, HW2.out.2, by have := HSZ.out; omega⟩
    have hst : WrSt (w5.alloc (.cells #[.bool false] 4)) (w5.alloc (.cells #[.bool false] 4)) P M 42 [kb] (some w4.heap.size) (some w4.heap.size) Q3 := ⟨PEN5.out.alloc _, .inl rfl, B53.out.alloc _, by omega, by decide, Chg.refl _ _⟩
    have KO := overR_w w5 P M (w.heap.size + 1 + t) np 42 116 ps [kb] (some w4.heap.size) Q3 row hst HTB5.out HPS.out.2.1 (fun p hp => allS_ent q p (HPS.out.1 p hp)) PEN5.out.lt B53.out.lt PEN5.out.blt (by omega) (by omega) (by intro e; injection e with e; omega) (fun i => Nat.le_trans (HPS.out.2.2 i) (by omega))
      (fun p hp W out b hW hl => by
        rw [HQ3.out] at hW ⊢
        exact partS_step q A1 c1 HFIT.out (w5.alloc (.cells #[.bool false] 4)) P M (some w4.heap.size) (Rd.nw I5.out ((Nw.refl w5).alloc _)) (HPA.out.elim (fun h => .inr fun a ha => by
          have h1 := h a ha
          have h2 := HSZ.out
          refine ⟨by have := PEN5.out.lt; simp only [World.size_alloc]; omega, ?_⟩
          rintro (e | e | e)
          · omega
          · omega
          · injection e with e; omega) .inl) p (HPS.out.1 p hp) W out b hW hl)
      (by have := HNP.out; omega)
    rw [HNP.out.1] at KO
    have KOV := Lib.hid KO
    have HPM := Lib.hid hPM
    have HSZ1 := Lib.hid hsz
    have HEN := Lib.hid (show Nw w w5 from Nw.trans N1.out (Nw.trans HXN.out N5.out))
    clear KO hst hsz hPM
    go_wp2_with fail
    refine KOV.out.mono ?_
    rintro e w6 (⟨hok, rfl, W, b2, hW, hw6⟩ | ⟨hno, rfl, W, hch, hw6⟩)
    rotate_left
    · have hlt : w.heap.size < w5.heap.size := B51.out.lt
      have hn6 : Nw w w6 := by
        have h1 : Below w.heap.size w (w5.alloc (.cells #[.bool false] 4)) := Below.alloc HEN.out (by omega) _
        have h2 : Below w.heap.size w W := h1.trans (hch.below (fun i hi hq => by have := HPM.out; have := HSZ1.out; rcases hq with q | q | q <;> first | omega | (injection q with q; omega)) (by simp; omega))
        rw [hw6]
        exact Nw.set (h2.alloc (by have := h2.size; omega) _) (by show w.heap.size ≤ w5.heap.size; omega) _
      have HN6 := Lib.hid hn6
      have hr : r = none := by rw [← HR.out, encRS, if_neg (fun h => hno h.1)]
      subst hr
      clear hw6 hch hno hn6 hlt
      as_aux_lemma =>
        go_wp2_with fail
        go_ret2
        exact ⟨rfl, HN6.out⟩
    have hlow : w.heap.size < w5.heap.size := B51.out.lt
    have hch := hW.chg
    have e1 := PEN5.out.lt
    have e2 := B53.out.lt
    obtain ⟨bs, hbs⟩ : ∃ bs, kb :: (ps.map (·.add)).flatten = bs := ⟨_, rfl⟩
    have hW' : PenW W P bs b2 := by rw [← hbs]; exact hW.pen
    have hob : Blk W w.heap.size 42 Q0 := (B51.out.alloc _).chg hch (by have := HPM.out; have := HSZ1.out; rintro (q | q | q) <;> first | omega | (injection q with q; omega))
    have ho6 : Blk w6 w.heap.size 42 Q0 := by rw [hw6]; exact hob.far (p := ⟨w5.heap.size, 0, none⟩) (by show w.heap.size ≠ w5.heap.size; omega) _
    have hp6 : PenW w6 P bs b2 := by
      rw [hw6]
      refine hW'.far (p := ⟨w5.heap.size, 0, none⟩) (by show P ≠ w5.heap.size; omega) ?_ _
      rcases hW.new with q | ⟨g, q, hg⟩
      · rw [q]; intro q2; have q3 := PEN5.out.blt _ q2; exact absurd q3 (by show ¬ w5.heap.size < w5.heap.size; omega)
      · rw [q]; intro q2; injection q2 with q2; simp at hg; have q2 : g = w5.heap.size := q2; omega
    have hn6 : Nw w w6 := by
      have h1 : Below w.heap.size w (w5.alloc (.cells #[.bool false] 4)) := Below.alloc HEN.out (by omega) _
      have h2 : Below w.heap.size w W := h1.trans (hch.below (fun i hi hq => by have := HPM.out; have := HSZ1.out; rcases hq with q | q | q <;> first | omega | (injection q with q; omega)) (by simp; omega))
      rw [hw6]
      exact Nw.set h2 (by show w.heap.size ≤ w5.heap.size; omega) _
    have hbl : bs.length ≤ 80001 := by have h := HPS.out.2.2 ps.length; rw [List.take_length] at h; rw [← hbs]; simpa using Nat.le_succ_of_le h
    have HRB := Lib.hid (show r = if dec7S bs = (q, 0) then some bs else none by
      rw [← HR.out, encRS, hbs]
      by_cases h : dec7S bs = (q, 0)
      · rw [if_pos ⟨hok, h⟩, if_pos h]
      · rw [if_neg (fun x => h x.2), if_neg h])
    clear hW hW' hw6 hch hob KOV e1 e2 hlow hok hbs HR
    obtain ⟨A5, c5, hpb, hpo⟩ := hp6
    obtain ⟨A', c', e, hrd, hcc, _⟩ := hpo.rd
    injection e with e1 _ e3
    subst e1 e3
    obtain ⟨nb, hnb⟩ : ∃ n, bs.length = n := ⟨_, rfl⟩
    rw [hnb] at hpb hcc hbl
    have KD := Lib.hid (ourS_any w6 A5 nb c5 bs hrd hnb hcc (by omega))
    have p0 : w6.cell? ⟨P, 0, none⟩ = some (.slice A5 nb c5) := (hpb.cell 0).trans rfl
    have HPB := Lib.hid hpb
    have HBY := Lib.hid (show BytesAt w6 A5 bs ∧ nb ≤ c5 ∧ bs.length = nb from ⟨hrd, hcc, hnb⟩)
    have HO6 := Lib.hid ho6
    have HN6 := Lib.hid hn6
    obtain ⟨D, hD⟩ : ∃ D, dec7S bs = D := ⟨_, rfl⟩
    have HDL := Lib.hid (show D.1.vs.length ≤ 8 by rw [← hD]; exact dec7S_vs bs)
    rw [hD] at HRB KD
    clear hpb hpo hrd hcc hnb hbl ho6 hn6 hD
    go_upto_region 7 with (fail)
    obtain ⟨Q1, er⟩ := D
    go_wp2_with fail
    refine KD.out.mono ?_
    rintro e w7 ⟨A2, c2, rfl, hb7, n7, _⟩
    obtain ⟨q1, hq1⟩ : ∃ q1, (Q1.c A2 c2).toArray = q1 := ⟨_, rfl⟩
    simp only at hb7 hq1
    rw [hq1]
    have HQ1 := Lib.hid (show q1.size = 18 ∧ q1.all (·.oneCell') = true ∧ q1 = (Q1.c A2 c2).toArray by rw [← hq1]; exact ⟨rfl, by simp [Rs.c, Value.oneCell'], rfl⟩)
    obtain ⟨w8, hw8⟩ : ∃ w8, w7.alloc (.cells q1 42) = w8 := ⟨_, rfl⟩
    obtain ⟨B8, hB8⟩ : ∃ B8, w7.heap.size = B8 := ⟨_, rfl⟩
    have hb8 : Blk w8 B8 42 q1 := by rw [← hw8]; exact Blk.last w7 _ _ hB8
    have n78 : Nw w7 w8 := by rw [← hw8]; exact (Nw.refl w7).alloc _
    have n68 : Nw w6 w8 := Nw.trans n7 n78
    have ho8 : Blk w8 w.heap.size 42 Q0 := HO6.out.below n68 HO6.out.lt
    have hp8 : Blk w8 P 76 #[.slice A5 nb c5, .bool false] := HPB.out.below n68 HPB.out.lt
    have HW8 := Lib.hid (And.intro hw8 hB8)
    have HP8 := Lib.hid hp8
    have HN8 := Lib.hid (show Nw w w8 from Nw.trans HN6.out n68)
    have HBY8 := Lib.hid (show BytesAt w8 A5 bs from Rd.nw HBY.out.1 n68)
    have HB8 := Lib.hid hb8
    have HO8 := Lib.hid ho8
    have HI8 := Lib.hid (show (Try.prog.info? 42).map (·.size) = some q1.size by rw [HQ1.out.1]; kernel_rfl)
    have HZ8 := Lib.hid (show (#[.int .i64 0, .int .u32 0, .int .i64 0, .int .i64 0, .slice none 0 0, .int .i64 0, .int .i64 0, .int .i64 0, .int .i64 0, .int .i64 0, .int .i64 0, .int .u32 0, .int .i64 0, .int .i64 0, .int .i64 0, .int .i64 0, .int .i64 0, .int .i64 0] : Array Value).size = q1.size by rw [HQ1.out.1]; rfl)
    have KS := Lib.hid (show Calls Try.prog 16 #[.agg q1, .agg Q0] w8 (fun e w' => e = .returned (.bool (decide (Q1 = q))) ∧ Nw w8 w') by
      rw [HQ1.out.2.2, HQ0.out.2.2.2]
      have h1 : Q1.vs.length ≤ 9223372036854775807 := by have h2 := HDL.out; omega
      exact sameRs_any w8 Q1 q A2 A c2 c (Rd.nw hb7 n78) (show IntsAt w8 A q.vs from Rd.nw HBI.out HN8.out) h1 (by have := HN.out; omega))
    clear hw8 hB8 hb8 n78 n68 ho8 hp8 hb7 n7 hq1 p0
    go_upto_region 8 with (refine wpList_store_row rfl 42 _ _ rfl w7.heap.size q1 rfl rfl 42 _ (heap_last _ _ rfl) HI8.out HZ8.out HQ1.out.2.1 ?_; rw [setRow_last _ _ _ _ rfl])
    rw [HW8.out.1, HW8.out.2]
    by_cases her : er = 0
    rotate_left
    · have hr : r = none := by rw [HRB.out, if_neg (fun h => her (congrArg Prod.snd h))]
      subst hr
      have hb0 : (er == 0) = false := by simpa using her
      as_aux_lemma =>
        go_wp2_with fail
        go_ret2
        exact ⟨rfl, HN8.out⟩
    subst her
    by_cases heq : Q1 = q
    · have hr : r = some bs := by rw [HRB.out, heq, if_pos rfl]
      subst hr
      rw [decide_eq_true heq] at KS
      clear heq
      as_aux_lemma =>
        go_wp2_with (first | (refine wpList_load_row_g (by rfl) 42 _ rfl B8 rfl 42 q1 (0, 0) (.struct d) HB8.out HD.out rfl HI8.out ?_) | (refine wpList_load_row_g (by rfl) 42 _ rfl w.heap.size rfl 42 Q0 (0, 0) (.struct d) HO8.out HD.out rfl HI.out ?_))
        refine KS.out.mono ?_
        rintro e w9 ⟨rfl, n9⟩
        have p9 : w9.cell? ⟨P, 0, none⟩ = some (.slice A5 nb c5) := n9.cell ((HP8.out.cell 0).trans rfl)
        have HN9 := Lib.hid (show Nw w w9 from Nw.trans HN8.out n9)
        have HB9 := Lib.hid (show BytesAt w9 A5 bs from Rd.nw HBY8.out n9)
        clear n9
        go_wp2_with fail
        go_ret2
        exact ⟨A5, c5, by rw [HBY.out.2.2]; rfl, HB9.out, by rw [HBY.out.2.2]; exact HBY.out.2.1, HN9.out⟩
    · have hr : r = none := by rw [HRB.out, if_neg (fun h => heq (congrArg Prod.fst h))]
      subst hr
      rw [decide_eq_false heq] at KS
      clear heq
      as_aux_lemma =>
        go_wp2_with (first | (refine wpList_load_row_g (by rfl) 42 _ rfl B8 rfl 42 q1 (0, 0) (.struct d) HB8.out HD.out rfl HI8.out ?_) | (refine wpList_load_row_g (by rfl) 42 _ rfl w.heap.size rfl 42 Q0 (0, 0) (.struct d) HO8.out HD.out rfl HI.out ?_))
        refine KS.out.mono ?_
        rintro e w9 ⟨rfl, n9⟩
        have HN9 := Lib.hid (show Nw w w9 from Nw.trans HN8.out n9)
        clear n9
        go_wp2_with fail
        go_ret2
        exact ⟨rfl, HN9.out⟩
end Go.Proofs.Ytnbcjjgilndlaaa
/- Messages: what ours encodes, of any response. Helper. -/
namespace Go.Proofs.Ytnbcjjgilndlaaa
open Go.RowKit
set_option linter.unusedVariables false
set_option linter.unusedSimpArgs false
set_option maxRecDepth 100000
set_option maxHeartbeats 6400000
theorem tells_missI (S : Nat) (k : Int) (hk : k < 1 ∨ 5 < k) : Instr.findNow (.int .i64) (.int .i64 k) (tellsES S).toArray.toList 0 = some none := by
  have e : ∀ j : Nat, 1 ≤ j → j ≤ 5 → (k == (j : Int)) = false := fun j h1 h2 => by simp; omega
  have e1 : (k == 1) = false := e 1 (by omega) (by omega)
  have e2 : (k == 2) = false := e 2 (by omega) (by omega)
  have e3 : (k == 3) = false := e 3 (by omega) (by omega)
  have e4 : (k == 4) = false := e 4 (by omega) (by omega)
  have e5 : (k == 5) = false := e 5 (by omega) (by omega)
  simp [tellsES, Instr.findNow, Instr.sameNow, e1, e2, e3, e4, e5]
theorem encS_bad (q : Rs) (hk : q.k < 1 ∨ 5 < q.k) (hq : q.Fit) (A : Option Addr) (c : Nat) (w : World) (hb : IntsAt w A q.vs) : Calls Try.prog 21 #[.agg #[.int .i64 q.k, .int .u32 q.id, .int .i64 q.er, .int .i64 q.fl, .slice A q.vs.length c, .int .i64 q.rT, .int .i64 q.rO, .int .i64 q.rS, .int .i64 q.rp, .int .i64 q.rn, .int .i64 q.rv, .int .u32 q.nu, .int .i64 q.T, .int .i64 q.O, .int .i64 q.S, .int .i64 q.tt, .int .i64 q.kd, .int .i64 q.da]] w (EncF w none) := by
  obtain ⟨k, hkk⟩ : ∃ k, q.k = k := ⟨_, rfl⟩
  obtain ⟨v, hv⟩ : ∃ v, IntKind.u8.wrap k = v := ⟨_, rfl⟩
  obtain ⟨kb, hkb⟩ : ∃ kb : UInt8, (kb.toNat : Int) = v := ⟨UInt8.ofNat v.toNat, by rw [IntKind.wrap_u8] at hv; simp; omega⟩
  obtain ⟨Q0, hQ0⟩ : ∃ Q0 : Array Value, #[.int .i64 q.k, .int .u32 q.id, .int .i64 q.er, .int .i64 q.fl, .slice A q.vs.length c, .int .i64 q.rT, .int .i64 q.rO, .int .i64 q.rS, .int .i64 q.rp, .int .i64 q.rn, .int .i64 q.rv, .int .u32 q.nu, .int .i64 q.T, .int .i64 q.O, .int .i64 q.S, .int .i64 q.tt, .int .i64 q.kd, .int .i64 q.da] = Q0 := ⟨_, rfl⟩
  have HQ0 := Lib.hid (show Q0[0]? = some (.int .i64 k) ∧ Q0.size = 18 ∧ Q0.all (·.oneCell') = true ∧ Q0 = (q.c A c).toArray by rw [← hQ0, ← hkk]; exact ⟨rfl, rfl, by simp [Value.oneCell'], rfl⟩)
  obtain ⟨n, hn⟩ : ∃ n, q.vs.length = n := ⟨_, rfl⟩
  obtain ⟨w1, hw1⟩ : ∃ w1, w.alloc (.cells Q0 42) = w1 := ⟨_, rfl⟩
  have hM : Blk w1 w.heap.size 42 Q0 := by rw [← hw1]; exact Blk.last w _ _ rfl
  have n1 : Nw w w1 := by rw [← hw1]; exact (Nw.refl w).alloc _
  have s1 : w1.heap.size = w.heap.size + 1 := by rw [← hw1]; simp
  have k0 : w1.cell? ⟨w.heap.size, 0, none⟩ = some (.int .i64 k) := (hM.cell 0).trans HQ0.out.1
  obtain ⟨d, hd⟩ := stRs
  have HD := Lib.hid hd
  have HI := Lib.hid (show (Try.prog.info? 42).map (·.size) = some Q0.size by rw [HQ0.out.2.1]; kernel_rfl)
  have HZ := Lib.hid (show (#[.int .i64 0, .int .u32 0, .int .i64 0, .int .i64 0, .slice none 0 0, .int .i64 0, .int .i64 0, .int .i64 0, .int .i64 0, .int .i64 0, .int .i64 0, .int .u32 0, .int .i64 0, .int .i64 0, .int .i64 0, .int .i64 0, .int .i64 0, .int .i64 0] : Array Value).size = Q0.size by rw [HQ0.out.2.1]; rfl)
  have HW1 := Lib.hid hw1
  have HM := Lib.hid hM
  have N1 := Lib.hid n1
  have S1 := Lib.hid s1
  have KA := Lib.hid (fun (W : World) (hs : W.heap.size = w.heap.size + 1) => by have := tells_any W; rw [hs] at this; exact this)
  have HBI := Lib.hid hb
  have HN := Lib.hid (show q.vs.length = n ∧ n ≤ 1000 from ⟨hn, by have := hq.vl; omega⟩)
  rw [hQ0]
  have HKB := Lib.hid hkb
  have HX := Lib.hid (show k < 1 ∨ 5 < k by rw [← hkk]; exact hk)
  have HZZ := Lib.hid (show ∀ W, (zeroValue 78).run Try.prog W = .ok (.slice none 0 0) W from fun W => by kernel_rfl)
  clear hw1 hM n1 s1 hQ0 hkb hk hkk hb hq hn hd
  go_enter Try.func21, Try.ntmps21
  go_upto_region 1 with (fail)
  rw [HW1.out]
  go_cut [5] from 10 to 17 (fun s5 wx => s5 = .bool false ∧ Hid (Nw w1 wx))
  case first =>
   as_aux_lemma =>
    go_region_with (go_at_call 31; refine (KA.out w1.drew S1.out).mono ?_; rintro e w4 ⟨rfl, h4, b4⟩; have i4 : Nw w1 w4 := Nw.step (show Nw w1 w1.drew from (Nw.refl w1).drew) (by have hs : w1.drew.heap.size = w.heap.size + 1 := S1.out; rw [hs]; exact b4); have kk := i4.cell k0; have lk := look_none Try.underlying80 Try.underlying37 h4.tab k HZZ.out (tells_missI _ k HX.out); have I4 := Lib.hid i4; clear h4 i4 b4)
    all_goals
      go_wp2_with fail
      go_meet
      exact ⟨rfl, Lib.hid I4.out⟩
  case rest =>
    obtain ⟨rfl, HXN⟩ := hcut
    clear k0
    have b1 : Blk wc w.heap.size 42 Q0 := HM.out.below HXN.out HM.out.lt
    have u4 : wc.cell? ⟨w.heap.size, 4, none⟩ = some (.slice A n c) := (b1.cell 4).trans (by rw [HQ0.out.2.2.2, ← HN.out.1]; rfl)
    obtain ⟨w2, hw2⟩ : ∃ W, wc.alloc (.cells Q0 42) = W := ⟨_, rfl⟩
    obtain ⟨M, hMe⟩ : ∃ G, wc.heap.size = G := ⟨_, rfl⟩
    have b21 : Blk w2 w.heap.size 42 Q0 := by rw [← hw2]; exact b1.alloc _
    have b22 : Blk w2 M 42 Q0 := by rw [← hw2]; exact Blk.last wc _ _ hMe
    have n2 : Nw wc w2 := by rw [← hw2]; exact (Nw.refl wc).alloc _
    have u42 : w2.cell? ⟨w.heap.size, 4, none⟩ = some (.slice A n c) := n2.cell u4
    have m42 : w2.cell? ⟨M, 4, none⟩ = some (.slice A n c) := (b22.cell 4).trans (by rw [HQ0.out.2.2.2, ← HN.out.1]; rfl)
    have zm := b22.frozen 4
    have HG := Lib.hid (show w.heap.size < M by rw [← hMe]; exact b1.lt)
    have KC := Lib.hid (cloneI_any w2 A n c q.vs (Rd.nw HBI.out (Nw.trans N1.out (Nw.trans HXN.out n2))) HN.out.1 (by have := HN.out; omega))
    have HW2 := Lib.hid (And.intro hw2 hMe)
    have B1 := Lib.hid b1
    have B21 := Lib.hid b21
    have B22 := Lib.hid b22
    have N2 := Lib.hid n2
    clear b1 b21 b22 n2 hw2 hMe u4
    go_upto_region 3 with (first | (refine wpList_load_row rfl 42 _ rfl w.heap.size rfl 42 Q0 (0, 0) (.struct d) B1.out HD.out rfl HI.out ?_) | (refine wpList_store_row rfl 42 _ _ rfl wc.heap.size Q0 rfl rfl 42 _ (heap_last _ _ rfl) HI.out HZ.out HQ0.out.2.2.1 ?_; rw [setRow_last _ _ _ _ rfl]))
    rw [HW2.out.1, HW2.out.2]
    go_wp2_with fail
    refine KC.out.mono ?_
    rintro e w3 ⟨A1, c1, rfl, hi3, hc1, n3, hfar⟩
    have b33 : Blk w3 M 42 Q0 := B22.out.below n3 B22.out.lt
    have m43 : w3.cell? ⟨M, 4, none⟩ = some (.slice A n c) := n3.cell m42
    have zm3 := b33.frozen 4
    have lt3 : q.vs = [] ∨ ∀ a, A1 = some a → a.block < w3.heap.size ∧ w2.heap.size ≤ a.block := by
      rcases hfar with h | ⟨g, o, rfl, hg⟩
      · exact .inl h
      · rcases ints_blk hi3 with h | h
        · exact .inl h
        · exact .inr fun a ha => ⟨h a ha, by injection ha with ha; subst ha; exact hg⟩
    obtain ⟨w4, hw4⟩ : ∃ W, w3.setCell ⟨M, 4, none⟩ (.slice A1 n c1) = W := ⟨_, rfl⟩
    obtain ⟨Q3, hQ3⟩ : ∃ Q, (q.c A1 c1).toArray = Q := ⟨_, rfl⟩
    have b43 : Blk w4 M 42 Q3 := by
      have h := b33.set_ 4 (.slice A1 n c1)
      rw [hw4] at h
      have e : Q0.setIfInBounds 4 (.slice A1 n c1) = Q3 := by rw [HQ0.out.2.2.2, ← hQ3, ← HN.out.1]; rfl
      rw [e] at h; exact h
    have b41 : Blk w4 w.heap.size 42 Q0 := by
      rw [← hw4]
      exact (B21.out.below n3 B21.out.lt).far (p := ⟨M, 4, none⟩) (by have := HG.out; show w.heap.size ≠ M; omega) _
    have n4 : Nw wc w4 := by
      rw [← hw4]
      exact (Nw.trans N2.out n3).set (by have := HW2.out.2; show wc.heap.size ≤ M; omega) _
    have hM2 : M < w2.heap.size := B22.out.lt
    have s34 : w4.heap.size = w3.heap.size := by rw [← hw4]; simp
    have hi4 : IntsAt w4 A1 q.vs := by
      rcases lt3 with h | h
      · rw [h]; exact .inl rfl
      · rw [← hw4]
        exact ints_chg hi3 (M := fun i => i = M) (.inr fun a ha => ⟨(h a ha).1, fun e => by have := (h a ha).2; have e : a.block = M := e; omega⟩) ((Chg.refl (fun i => i = M) w3).setCell (p := ⟨M, 4, none⟩) (.inl rfl) _)
    obtain ⟨w5, hw5⟩ : ∃ W, (w4.alloc (.cells #[.int .u8 v] 5)).alloc (.cells #[.slice (some ⟨w4.heap.size, 0, none⟩) 1 1, .bool false] 76) = W := ⟨_, rfl⟩
    obtain ⟨P, hP⟩ : ∃ P, w4.heap.size + 1 = P := ⟨_, rfl⟩
    have n5 : Nw w4 w5 := by rw [← hw5]; exact ((Nw.refl w4).alloc _).alloc _
    have pen5 : PenW w5 P [kb] (some w4.heap.size) := by
      rw [← hw5, ← hP]
      refine ⟨some ⟨w4.heap.size, 0, none⟩, 1, Blk.last _ _ _ (by simp), ?_⟩
      rw [← HKB.out]
      exact (own7 w4 kb rfl).kept fun g hg => by injection hg with hg; rw [← hg]; exact Below.heap_alloc _ _ _ (by simp)
    have HPA := Lib.hid (show (∀ a, A1 = some a → w2.heap.size ≤ a.block ∧ a.block < w4.heap.size) ∨ q.vs = [] from lt3.elim .inr fun h => .inl fun a ha => ⟨(h a ha).2, by rw [s34]; exact (h a ha).1⟩)
    have HQ3 := Lib.hid (show Q3 = (q.c A1 c1).toArray from hQ3.symm)
    have HW4 := Lib.hid hw4
    have HW5 := Lib.hid (And.intro hw5 hP)
    have B51 := Lib.hid (b41.below n5 b41.lt)
    have B53 := Lib.hid (b43.below n5 b43.lt)
    have N4 := Lib.hid n4
    have N5 := Lib.hid (Nw.trans n4 n5)
    have I5 := Lib.hid (show IntsAt w5 A1 q.vs from Rd.nw hi4 n5)
    have PEN5 := Lib.hid pen5
    have HSZ := Lib.hid (show M < w2.heap.size ∧ w2.heap.size ≤ w4.heap.size from ⟨hM2, by rw [s34]; exact n3.size⟩)
    have v5 : w4.cell? ⟨w.heap.size, 0, none⟩ = some (.int .i64 k) := (b41.cell 0).trans HQ0.out.1
    clear hi3 hc1 n3 hfar b33 lt3 hw4 hQ3 b43 b41 n4 hM2 s34 hi4 hw5 hP n5 pen5 m42 zm u42
    go_upto_region 4 with (fail)
    rw [HW4.out]
    clear m43 zm3
    go_upto_region 5 with (fail)
    rw [HW5.out.1, HW5.out.2]
    clear v5
    have HEN := Lib.hid (show Nw w w5 from Nw.trans N1.out (Nw.trans HXN.out N5.out))
    go_wp2_with fail
    go_ret2
    exact ⟨rfl, HEN.out⟩
theorem partsS_len (k : Nat) (q : Rs) (kb : UInt8) (hq : q.Fit) (i : Nat) : ([kb] ++ (((partsS k q).take i).map (·.add)).flatten).length ≤ 80000 := by
  have h1 : (((partsS k q).take i).map (·.add)).flatten.length ≤ ((partsS k q).map (·.add)).flatten.length := by rw [List.map_take]; exact flat_take _ i
  have h2 : ((partsS k q).map (·.add)).flatten.length ≤ 70100 := by
    have := hq.vl
    unfold partsS
    repeat' split
    all_goals simp [beW_len, flat8_length]; try omega
  rw [List.length_append, List.length_singleton]
  omega
/-- What ours encodes. -/
noncomputable def encPS (q : Rs) : Option (List UInt8) := if 1 ≤ q.k ∧ q.k ≤ 5 then encRS (UInt8.ofNat q.k.toNat) q (partsS q.k.toNat q) else none
theorem encS_any (q : Rs) (hq : q.Fit) (A : Option Addr) (c : Nat) (w : World) (hb : IntsAt w A q.vs) : Calls Try.prog 21 #[.agg (q.c A c).toArray] w (EncF w (encPS q)) := by
  by_cases hk : 1 ≤ q.k ∧ q.k ≤ 5
  rotate_left
  · rw [encPS, if_neg hk]
    exact encS_bad q (by omega) hq A c w hb
  obtain ⟨k, hkk⟩ : ∃ k : Nat, q.k = k := ⟨q.k.toNat, by omega⟩
  rw [encPS, if_pos hk, hkk, Int.toNat_natCast]
  rw [hkk] at hk
  have hk2 : 1 ≤ k ∧ k ≤ 5 := by omega
  clear hk
  have : k = 1 ∨ k = 2 ∨ k = 3 ∨ k = 4 ∨ k = 5 := by omega
  rcases this with rfl | rfl | rfl | rfl | rfl
  · exact encS_of 1 hk2 q hkk hq A c _ 1 3 _ (partsS 1 q) rfl (partsS_sub 1 q) (UInt8.ofNat 1) rfl (fun _ => rfl) (fun _ _ h => h.p1) (fun j h => by
      have h2 : j < 3 := h
      have : j = 0 ∨ j = 1 ∨ j = 2 := by omega
      rcases this with rfl | rfl | rfl <;> rfl) (partsS_len 1 q _ hq) (by omega) w hb
  · exact encS_of 2 hk2 q hkk hq A c _ 2 3 _ (partsS 2 q) rfl (partsS_sub 2 q) (UInt8.ofNat 2) rfl (fun _ => rfl) (fun _ _ h => h.p2) (fun j h => by
      have h2 : j < 3 := h
      have : j = 0 ∨ j = 1 ∨ j = 2 := by omega
      rcases this with rfl | rfl | rfl <;> rfl) (partsS_len 2 q _ hq) (by omega) w hb
  · exact encS_of 3 hk2 q hkk hq A c _ 3 1 _ (partsS 3 q) rfl (partsS_sub 3 q) (UInt8.ofNat 3) rfl (fun _ => rfl) (fun _ _ h => h.p3) (fun j h => by
      have h2 : j < 1 := h
      have : j = 0 := by omega
      rcases this with rfl <;> rfl) (partsS_len 3 q _ hq) (by omega) w hb
  · exact encS_of 4 hk2 q hkk hq A c _ 4 2 _ (partsS 4 q) rfl (partsS_sub 4 q) (UInt8.ofNat 4) rfl (fun _ => rfl) (fun _ _ h => h.p4) (fun j h => by
      have h2 : j < 2 := h
      have : j = 0 ∨ j = 1 := by omega
      rcases this with rfl | rfl <;> rfl) (partsS_len 4 q _ hq) (by omega) w hb
  · exact encS_of 5 hk2 q hkk hq A c _ 5 1 _ (partsS 5 q) rfl (partsS_sub 5 q) (UInt8.ofNat 5) rfl (fun _ => rfl) (fun _ _ h => h.p5) (fun j h => by
      have h2 : j < 1 := h
      have : j = 0 := by omega
      rcases this with rfl <;> rfl) (partsS_len 5 q _ hq) (by omega) w hb
end Go.Proofs.Ytnbcjjgilndlaaa
