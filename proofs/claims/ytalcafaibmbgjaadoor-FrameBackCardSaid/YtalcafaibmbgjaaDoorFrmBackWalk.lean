/- FrameBack: the walk of the law. Helper. -/
import Derived.Test.YtalcafaibmbgjaaDoorFrmKnown
import Derived.Test.YtalcafaibmbgjaaDoorRegF
namespace Go.Proofs.YtalcafaibmbgjaaDoor
open Go.RowKit
set_option linter.unusedVariables false
set_option linter.unusedSimpArgs false
set_option maxRecDepth 100000
set_option maxHeartbeats 6400000
theorem back_out (w : World) (hE : ErrT w) (A : Option Addr) (n c : Nat) (h : 9000 < n) :
    Calls Tryd.prog 3 #[.slice A n c] w fun e w' => e = .returned (.bool true) ∧ Nw w w' := by
  have g1 : (9000 : Int) < (n : Int) := by omega
  clear h
  go_enter Tryd.func3, Tryd.ntmps3
  go_wp2_with fail
  refine (known_any w hE).mono ?_
  rintro e w1 ⟨rfl, n1⟩
  go_wp2_with fail
  go_ret
  exact ⟨rfl, n1⟩
/-- The frames of texts, one behind the other. -/
def frs (es : List Tx) : List UInt8 := (es.map fun e => frameB e.2.2.2).flatten
theorem frs_snoc (es : List Tx) (e : Tx) : frs (es ++ [e]) = frs es ++ frameB e.2.2.2 := by simp [frs]
/-- What was framed so far. -/
structure BackIn (w4 wr : World) (es : List Tx) (i : Nat) (AL : Option Addr) (A' : Option Addr) (c' : Nat) (blk : Option Nat) : Prop where
  o : Own wr 5 1 (.slice A' (frs (es.take i)).length c') (frs (es.take i)).length (bcells (frs (es.take i))) blk
  g : ∀ g, blk = some g → w4.heap.size ≤ g
  n : Nw w4 wr
theorem back_in (w : World) (hE : ErrT w) (A : Option Addr) (n c : Nat) (s : List UInt8) (hb : BytesAt w A s) (hn : s.length = n) (hc : n ≤ c) (h : n ≤ 9000) :
    Calls Tryd.prog 3 #[.slice A n c] w fun e w' => e = .returned (.bool true) ∧ Nw w w' := by
  have g1 : ¬ (9000 : Int) < (n : Int) := by omega
  have HE := Lib.hid hE
  have HEP := Lib.hid hE.pos
  have HB := Lib.hid hb
  have HN := Lib.hid (And.intro hn h)
  clear hE hb hn h
  go_enter Tryd.func3, Tryd.ntmps3
  go_upto_region 3 with (fail)
  go_wp2_with fail
  refine (decNew_any w).mono ?_
  rintro e w1 ⟨rfl, d1, n1⟩
  have KP := Lib.hid (decPush_any w1 w.heap.size [] 0 none 0 .nilIface none d1 A n c s (HB.out.below n1 (Nat.le_refl _)) HN.out.1 (by have := HN.out; simp; omega))
  have N1 := Lib.hid n1
  clear d1 n1
  go_upto_region 4 with (fail)
  go_wp2_with fail
  refine KP.out.mono ?_
  rintro e w2 ⟨rfl, A2, c2, blk2, d2, ch2, hb2⟩
  rw [List.nil_append] at d2
  have N2 := Lib.hid (show Nw w w2 from N1.out.trans (ch2.below (B := w.heap.size) (fun k _ hk => by rcases hk with hk | hk; { exact Nat.le_of_eq hk.symm }; { cases hk }) N1.out.size))
  have hM2 : ∀ k, decM w.heap.size blk2 k → w.heap.size ≤ k := by
    intro k hk
    rcases hk with hk | hk
    · exact Nat.le_of_eq hk.symm
    · rcases hb2 with h | h
      · rw [h] at hk; cases hk
      · rw [h] at hk; injection hk with hk; have := N1.out.size; omega
  have KT := Lib.hid (tell_any w2 (HE.out.nw N2.out) w.heap.size (by have := HEP.out; omega) s 0 A2 c2 _ blk2 d2 (by have := HN.out; omega) (Nat.zero_le _) (fun k hk => by have := hM2 k hk; have := HEP.out; omega))
  obtain ⟨T, hT⟩ : ∃ T, toldF s (s.length + 1) 0 = T := ⟨_, rfl⟩
  rw [hT] at KT
  have HT := Lib.hid hT
  have HM2 := Lib.hid hM2
  clear d2 ch2 hb2 hM2 hT
  go_upto_region 5 with (fail)
  go_wp2_with fail
  refine KT.out.mono ?_
  rintro e w4 ⟨AL, cL, es, blkL, rfl, oL, gL, xL, eL, ch4, A4, c4, x4, blk4, d4, hb4, hx4⟩
  have F4 := Lib.hid (And.intro oL (And.intro gL (And.intro xL (And.intro eL d4))))
  have N4 := Lib.hid (show Nw w w4 from N2.out.trans (ch4.below (B := w.heap.size) (fun k _ hk => HM2.out k hk) N2.out.size))
  clear oL gL xL eL ch4 d4 hb4 hx4
  have hback := toldF_back s (s.length + 1) 0 (Nat.zero_le _)
  have hend := toldF_end s (s.length + 1) 0 (Nat.zero_le _)
  have hmem := toldF_mem s (s.length + 1) 0 (Nat.zero_le _)
  have hmany := toldF_many s (s.length + 1) 0 (Nat.zero_le _)
  rw [HT.out] at hback hend hmem hmany
  have hes : es.length ≤ 2000 := by
    have := congrArg List.length F4.out.2.2.2.1
    rw [List.length_map, List.length_map] at this
    have := HN.out
    omega
  have hfr : frs es = s.take T.2.2 := by
    have h1 : frs es = ((es.map fun e => e.2.2.2).map frameB).flatten := by simp [frs, Function.comp_def]
    rw [h1, F4.out.2.2.2.1, List.map_map]
    simpa [Function.comp_def] using hback
  have hpl : ∀ e ∈ es, 1 ≤ e.2.2.2.length ∧ e.2.2.2.length ≤ 4096 := by
    intro e he
    have h1 : e.2.2.2 ∈ es.map fun e => e.2.2.2 := List.mem_map_of_mem he
    rw [F4.out.2.2.2.1] at h1
    obtain ⟨y, hy, hye⟩ := List.mem_map.1 h1
    have := hmem y hy
    rw [← hye, List.length_take, List.length_drop]
    omega
  have HFR := Lib.hid (And.intro hfr (And.intro hpl hend.2))
  obtain ⟨m, hm⟩ : ∃ m, es.length = m := ⟨_, rfl⟩
  rw [hm]
  rw [hm] at hes
  have HM := Lib.hid hm
  obtain ⟨i0, hi0, hz0, hz1, hz2⟩ := info_parts infoU8f
  have HL1 := Lib.hid hi0
  have HL2 := Lib.hid hz0
  have HL3 := Lib.hid hz1
  have HL4 := Lib.hid hz2
  clear hback hend hmem hmany hfr hpl hm hi0 hz0 hz1 hz2
  obtain ⟨eT, heT⟩ : ∃ e, T.2.1 = e := ⟨_, rfl⟩
  rw [heT]
  have HET := Lib.hid heT
  clear heT
  have hrs : ∀ i, i ≤ m → (frs (es.take i)).length ≤ 9000 := by
    intro i hi
    have h1 : frs es = frs (es.take i) ++ frs (es.drop i) := by
      unfold frs; rw [← List.flatten_append, ← List.map_append, List.take_append_drop]
    have h2 := congrArg List.length h1
    rw [HFR.out.1, List.length_append, List.length_take] at h2
    have := HN.out
    omega
  have HRS := Lib.hid hrs
  clear hrs
  go_wp2_with fail
  go_loopw [6, 7] (fun x y wr => ∃ (i : Nat) (A' : Option Addr) (c' : Nat) (blk : Option Nat), i ≤ m ∧ x = .slice A' (frs (es.take i)).length c' ∧ y = .int .i64 (i : Int) ∧ Hid (BackIn w4 wr es i AL A' c' blk)) (fun _ y _ => m - (intOf y).toNat)
  case atStart => exact ⟨0, none, 0, none, Nat.zero_le _, rfl, rfl, Lib.hid ⟨Own.nil _ _ _, (fun g hg => by cases hg), Nw.refl _⟩⟩
  case round =>
    obtain ⟨i, A', c', blk, hi, rfl, rfl, HI⟩ := hrel
    obtain ⟨L, hL⟩ : ∃ L, (frs (es.take i)).length = L := ⟨_, rfl⟩
    rw [hL]
    have HLL := Lib.hid hL
    clear hL
    by_cases hlt : i < m
    · as_aux_lemma =>
      have i1 : (i : Int) < (m : Int) := by omega
      obtain ⟨gl, ol, hAL, hcl⟩ : ∃ gl ol, AL = some ⟨gl, ol, none⟩ ∧ w4.cell? ⟨gl, ol + i, none⟩ = some (Tx.v (es[i]'(by rw [HM.out]; exact hlt))) := by
        rcases (own_rdA F4.out.1).1 with h | ⟨b, o, e1, h⟩
        · have := congrArg List.length h; rw [List.length_map, HM.out] at this; simp at this; omega
        · exact ⟨b, o, e1, h i _ (by simp [HM.out, hlt])⟩
      subst hAL
      obtain ⟨E, hE⟩ : ∃ E, es[i]'(by rw [HM.out]; exact hlt) = E := ⟨_, rfl⟩
      rw [hE] at hcl
      have hmem : E ∈ es := by rw [← hE]; exact List.getElem_mem _
      have htk : es.take (i + 1) = es.take i ++ [E] := by rw [List.take_succ_eq_append_getElem (by rw [HM.out]; exact hlt), hE]
      obtain ⟨ge, oe, ce, le⟩ := E
      obtain ⟨N, hN⟩ : ∃ N, le.length = N := ⟨_, rfl⟩
      have hcl2 : wr.cell? ⟨gl, ol + i, none⟩ = some (.slice (some ⟨ge, oe, none⟩) N ce) := by rw [← hN]; exact HI.out.n.cell hcl
      have hxe := F4.out.2.2.1 _ hmem
      have hple := HFR.out.2.1 _ hmem
      have KE := Lib.hid (frmEnc_ok wr (some ⟨ge, oe, none⟩) N ce le (Rd.below hxe.1 HI.out.n (Nat.le_refl _)) hN (by rw [← hN]; exact hple.1) (by rw [← hN]; exact hple.2))
      have hrs1 := HRS.out (i + 1) hlt
      rw [htk, frs_snoc, List.length_append, frameB_length, HLL.out, hN] at hrs1
      have hfrl : (frameB le).length = 6 + N := by rw [frameB_length, hN]
      have HTK := Lib.hid (And.intro htk (And.intro hN (And.intro hrs1 hfrl)))
      clear hE hmem hcl htk hN hxe hple hrs1 hfrl
      go_upto_region 10 with (fail)
      go_wp2_with fail
      refine KE.out.mono ?_
      rintro e w5 ⟨A5, c5, rfl, hb5, hc5, n5⟩
      have F5 := Lib.hid (And.intro hb5 n5)
      clear hb5 hc5 n5
      have HO5 := Lib.hid (show Own w5 5 1 (.slice A' L c') L (bcells (frs (es.take i))) blk by
        have := HI.out.o
        rw [HLL.out] at this
        exact this.kept fun g hg => F5.out.2.block g (HI.out.o.lt g hg))
      go_upto_region 9 with (at_builtin; refine wpList_append_at w5 rfl _ _ _ rfl 5 i0 _ 1 1 Tryd.underlying22 HL1.out HL2.out HL3.out HL4.out rfl (by omega) _ L (bcells (frs (es.take i))) blk rfl HO5.out _ (6 + N) c5 (bcells (frameB le)) rfl (by rw [bcells_length, HTK.out.2.2.2]; omega) F5.out.1 (bcells_one _) (by have := HTK.out.2.2.1; simp only [maxLen]; omega) (by have := HTK.out.2.2.1; omega) ?_; intro A6 c6 w6 blk6 hown hchg hat; have HO6 := Lib.hid hown; have HC6 := Lib.hid hchg; have HT6 := Lib.hid hat; clear hown hchg hat)
      go_wp2_with fail
      have hL6 : (frs (es.take (i + 1))).length = L + (6 + N) := by rw [HTK.out.1, frs_snoc, List.length_append, HLL.out, HTK.out.2.2.2]
      have n5 : Nw w4 w5 := HI.out.n.trans (F5.out.2.mono HI.out.n.size)
      refine ⟨⟨i + 1, A6, c6, blk6, hlt, by rw [hL6], by push_cast; rfl, Lib.hid ⟨?_, ?_, ?_⟩⟩, by simp [intOf]; omega⟩
      · rw [hL6, HTK.out.1, frs_snoc, show bcells (frs (es.take i) ++ frameB le) = bcells (frs (es.take i)) ++ bcells (frameB le) by simp [bcells]]
        exact HO6.out
      · intro g hg
        rcases HT6.out with h | h
        · exact HI.out.g g (by rw [← h]; exact hg)
        · rw [h] at hg; injection hg with hg; have := n5.size; omega
      · exact n5.trans (HC6.out.below (fun k _ hk => HI.out.g k hk.symm) n5.size)
    · obtain rfl : i = m := by omega
      have i1 : ¬ (i : Int) < (i : Int) := by omega
      have hall : es.take i = es := List.take_of_length_le (by rw [HM.out]; exact Nat.le_refl _)
      rw [hall] at HLL
      have HI2 := Lib.hid (show Own wr 5 1 (.slice A' (frs es).length c') (frs es).length (bcells (frs es)) blk ∧ Nw w4 wr from ⟨by have := HI.out.o; rw [hall] at this; exact this, HI.out.n⟩)
      go_upto_region 14 with (fail)
      have hLT : L = T.2.2 := by
        rw [← HLL.out, HFR.out.1, List.length_take]; have := HFR.out.2.2; omega
      obtain ⟨FB, hFB⟩ : ∃ FB, frs es = FB := ⟨_, rfl⟩
      rw [hFB] at HI2 HLL
      have hLn : L ≤ n := by have := HFR.out.2.2; have := HN.out; omega
      have BT := Lib.hid (show BytesAt wr A' FB ∧ BytesAt wr A FB from ⟨(own_rdA HI2.out.1).1, by
        have h0 : BytesAt wr A s := Rd.below HB.out (N4.out.trans (HI2.out.2.mono N4.out.size)) (Nat.le_refl _)
        have h1 := h0.take T.2.2
        rw [← HFR.out.1, hFB] at h1; exact h1⟩)
      have q1 : ¬ (n : Int) < (L : Int) := by omega
      have q2 : (L : Int) ≤ (c : Int) := by omega
      have q3 : (0 : Int) ≤ (L : Int) := by omega
      have hKR := F4.out.2.2.2.2.nw HI2.out.2
      rw [HET.out] at hKR
      have HKR := Lib.hid hKR
      have HLT := Lib.hid (And.intro hLT hLn)
      clear hLT hLn hFB hKR hall
      refine wp_region_F (fun W => Nw wr W) [14] (by kernel_rfl) ?_
      have hS : Nw wr wr.drew := (Nw.refl wr).drew
      refine wpAnyF_freeT (i := 0) (v := ?_) rfl (by kernel_rfl) (by kernel_rfl) (by kernel_rfl) (by kernel_rfl) (by kernel_rfl) (fun _ _ _ h => h) (by rfl) ?_ hS ?_
      rotate_left
      · intro u
        go_simp
        try with_reducible rfl
      try simp only [List.getElem_toArray, List.getElem_cons_succ, List.getElem_cons_zero, Act.put, List.setIfInBounds_toArray, List.set_cons_zero, List.set_cons_succ]
      refine wpAnyF_freeT (i := 1) (v := ?_) rfl (by kernel_rfl) (by kernel_rfl) (by kernel_rfl) (by kernel_rfl) (by kernel_rfl) (fun _ _ _ h => h) (by rfl) ?_ hS ?_
      rotate_left
      · intro u
        go_simp
        try with_reducible rfl
      try simp only [List.getElem_toArray, List.getElem_cons_succ, List.getElem_cons_zero, Act.put, List.setIfInBounds_toArray, List.set_cons_zero, List.set_cons_succ]
      refine wpAnyF_freeT (i := 2) (v := ?_) rfl (by kernel_rfl) (by kernel_rfl) (by kernel_rfl) (by kernel_rfl) (by kernel_rfl) (fun _ _ _ h => h) (by rfl) ?_ hS ?_
      rotate_left
      · intro u
        go_simp
        try with_reducible rfl
      try simp only [List.getElem_toArray, List.getElem_cons_succ, List.getElem_cons_zero, Act.put, List.setIfInBounds_toArray, List.set_cons_zero, List.set_cons_succ]
      refine wpAnyF_freeT (i := 3) (v := ?_) rfl (by kernel_rfl) (by kernel_rfl) (by kernel_rfl) (by kernel_rfl) (by kernel_rfl) (fun _ _ _ h => h) (by rfl) ?_ hS ?_
      rotate_left
      · intro u
        go_simp
        try with_reducible rfl
      try simp only [List.getElem_toArray, List.getElem_cons_succ, List.getElem_cons_zero, Act.put, List.setIfInBounds_toArray, List.set_cons_zero, List.set_cons_succ]
      refine wpAnyF_freeT (i := 4) (v := ?_) rfl (by kernel_rfl) (by kernel_rfl) (by kernel_rfl) (by kernel_rfl) (by kernel_rfl) (fun _ _ _ h => h) (by rfl) ?_ hS ?_
      rotate_left
      · intro u
        go_simp
        try with_reducible rfl
      try simp only [List.getElem_toArray, List.getElem_cons_succ, List.getElem_cons_zero, Act.put, List.setIfInBounds_toArray, List.set_cons_zero, List.set_cons_succ]
      refine wpAnyF_freeT (i := 5) (v := ?_) rfl (by kernel_rfl) (by kernel_rfl) (by kernel_rfl) (by kernel_rfl) (by kernel_rfl) (fun _ _ _ h => h) (by rfl) ?_ hS ?_
      rotate_left
      · intro u
        go_simp
        try with_reducible rfl
      try simp only [List.getElem_toArray, List.getElem_cons_succ, List.getElem_cons_zero, Act.put, List.setIfInBounds_toArray, List.set_cons_zero, List.set_cons_succ]
      refine wpAnyF_freeT (i := 6) (v := ?_) rfl (by kernel_rfl) (by kernel_rfl) (by kernel_rfl) (by kernel_rfl) (by kernel_rfl) (fun _ _ _ h => h) (by rfl) ?_ hS ?_
      rotate_left
      · intro u
        go_simp
        try with_reducible rfl
      try simp only [List.getElem_toArray, List.getElem_cons_succ, List.getElem_cons_zero, Act.put, List.setIfInBounds_toArray, List.set_cons_zero, List.set_cons_succ]
      refine wpAnyF_takeT (i := 7) (v := ?_) rfl (by kernel_rfl) (by kernel_rfl) (by kernel_rfl) (by kernel_rfl) (by kernel_rfl) (by kernel_rfl) (fun _ _ _ h => h) (by rfl) ?_ hS ?_
      rotate_left
      · intro u hu
        have s1 := BytesAt.str (show BytesAt u A' FB from Rd.below BT.out.1 hu (Nat.le_refl _)) 22 5 9 c' Tryd.underlying22 Tryd.underlying5 Tryd.underlying9
        rw [HLL.out] at s1
        go_simp
        try with_reducible rfl
      try simp only [List.getElem_toArray, List.getElem_cons_succ, List.getElem_cons_zero, Act.put, List.setIfInBounds_toArray, List.set_cons_zero, List.set_cons_succ]
      refine wpAnyF_freeT (i := 8) (v := ?_) rfl (by kernel_rfl) (by kernel_rfl) (by kernel_rfl) (by kernel_rfl) (by kernel_rfl) (fun _ _ _ h => h) (by rfl) ?_ hS ?_
      rotate_left
      · intro u
        go_simp
        try with_reducible rfl
      try simp only [List.getElem_toArray, List.getElem_cons_succ, List.getElem_cons_zero, Act.put, List.setIfInBounds_toArray, List.set_cons_zero, List.set_cons_succ]
      refine wpAnyF_freeT (i := 9) (v := ?_) rfl (by kernel_rfl) (by kernel_rfl) (by kernel_rfl) (by kernel_rfl) (by kernel_rfl) (fun _ _ _ h => h) (by rfl) ?_ hS ?_
      rotate_left
      · intro u
        go_simp
        try with_reducible rfl
      try simp only [List.getElem_toArray, List.getElem_cons_succ, List.getElem_cons_zero, Act.put, List.setIfInBounds_toArray, List.set_cons_zero, List.set_cons_succ]
      refine wpAnyF_freeT (i := 10) (v := ?_) rfl (by kernel_rfl) (by kernel_rfl) (by kernel_rfl) (by kernel_rfl) (by kernel_rfl) (fun _ _ _ h => h) (by rfl) ?_ hS ?_
      rotate_left
      · intro u
        go_simp
        try with_reducible rfl
      try simp only [List.getElem_toArray, List.getElem_cons_succ, List.getElem_cons_zero, Act.put, List.setIfInBounds_toArray, List.set_cons_zero, List.set_cons_succ]
      refine wpAnyF_freeT (i := 11) (v := ?_) rfl (by kernel_rfl) (by kernel_rfl) (by kernel_rfl) (by kernel_rfl) (by kernel_rfl) (fun _ _ _ h => h) (by rfl) ?_ hS ?_
      rotate_left
      · intro u
        go_simp
        try with_reducible rfl
      try simp only [List.getElem_toArray, List.getElem_cons_succ, List.getElem_cons_zero, Act.put, List.setIfInBounds_toArray, List.set_cons_zero, List.set_cons_succ]
      refine wpAnyF_takeT (i := 12) (v := ?_) rfl (by kernel_rfl) (by kernel_rfl) (by kernel_rfl) (by kernel_rfl) (by kernel_rfl) (by kernel_rfl) (fun _ _ _ h => h) (by rfl) ?_ hS ?_
      rotate_left
      · intro u hu
        have s2 := BytesAt.str (show BytesAt u A FB from Rd.below BT.out.2 hu (Nat.le_refl _)) 22 5 9 c Tryd.underlying22 Tryd.underlying5 Tryd.underlying9
        rw [HLL.out] at s2
        go_simp
        try with_reducible rfl
      try simp only [List.getElem_toArray, List.getElem_cons_succ, List.getElem_cons_zero, Act.put, List.setIfInBounds_toArray, List.set_cons_zero, List.set_cons_succ]
      refine wpAnyF_freeT (i := 13) (v := ?_) rfl (by kernel_rfl) (by kernel_rfl) (by kernel_rfl) (by kernel_rfl) (by kernel_rfl) (fun _ _ _ h => h) (by rfl) ?_ hS ?_
      rotate_left
      · intro u
        go_simp
        try with_reducible rfl
      try simp only [List.getElem_toArray, List.getElem_cons_succ, List.getElem_cons_zero, Act.put, List.setIfInBounds_toArray, List.set_cons_zero, List.set_cons_succ]
      refine wpAnyF_step (i := 14) (by kernel_rfl) rfl (by rfl) fun K hK => ?_
      go_simp
      refine hK _ _ (.inl (by kernel_rfl)) ?_
      clear hK K
      try simp only [List.getElem_toArray, List.getElem_cons_succ, List.getElem_cons_zero, Act.put, List.setIfInBounds_toArray, List.set_cons_zero, List.set_cons_succ]
      refine wpAnyF_done (by kernel_rfl) ?_ _
      obtain ⟨w5, hw5⟩ : ∃ W, wr.drew = W := ⟨_, rfl⟩
      rw [hw5]
      have n5 : Nw wr w5 := by rw [← hw5]; exact (Nw.refl wr).drew
      have N5 := Lib.hid (show Nw w w5 from (N4.out.trans (HI2.out.2.mono N4.out.size)).trans (n5.mono (N4.out.trans (HI2.out.2.mono N4.out.size)).size))
      have HK5 := Lib.hid (HKR.out.nw n5)
      have KK := Lib.hid (known_any w5 (HE.out.nw N5.out))
      clear hw5 n5
      by_cases h0 : eT = 0
      · subst h0
        have KR := decRest_any w5 _ _ _ _ _ _ _ _ HK5.out
        rw [if_pos rfl, List.length_drop, HN.out.1] at KR
        have KR2 := Lib.hid KR
        have e1 : IntKind.i64.wrap ((i : Int) - (i : Int)) = 0 := by simp [IntKind.wrap_i64]
        have e2 : ((n - T.2.2 : Nat) : Int) = (n : Int) - (L : Int) := by have := HLT.out; omega
        rw [e2] at KR2
        have e3 : IntKind.i64.wrap ((n : Int) - (L : Int)) = (n : Int) - (L : Int) := by have := HLT.out; have := HN.out; rw [IntKind.wrap_i64]; omega
        clear KR e2
        go_upto_region 16 with (fail)
        go_wp2_with (first | (go_at_call 10; refine KR2.out.mono ?_; rintro e w6 ⟨rfl, rfl⟩) | (go_at_call 5; refine KK.out.mono ?_; rintro e w7 ⟨rfl, n7⟩))
        go_ret
        exact ⟨rfl, N5.out.trans (n7.mono N5.out.size)⟩
      · have q4 : (eT != 0) = true := by simp [h0]
        go_upto_region 16 with (fail)
        go_wp2_with (first | (go_at_call 5; refine KK.out.mono ?_; rintro e w7 ⟨rfl, n7⟩))
        go_ret
        exact ⟨rfl, N5.out.trans (n7.mono N5.out.size)⟩
end Go.Proofs.YtalcafaibmbgjaaDoor
