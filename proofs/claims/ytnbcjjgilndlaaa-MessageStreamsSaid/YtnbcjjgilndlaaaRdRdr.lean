/- Messages: keys, events, records read, or not. Helper. -/
import Derived.Test.YtnbcjjgilndlaaaRdPen
namespace Go.Proofs.Ytnbcjjgilndlaaa
open Go.RowKit
set_option linter.unusedVariables false
set_option linter.unusedSimpArgs false
set_option maxRecDepth 100000
set_option maxHeartbeats 3200000 in
theorem number_out (w : World) (P Nb no : Nat) (v : Int) (A : Option Addr) (n c : Nat) (bs : List UInt8) (k : Nat) (lo hi : Int) (hP : Blk w P 76 #[.slice A n c, .bool true]) (hb : BytesAt w A bs) (hn : bs.length = n) (hc : n ≤ c) (hnc : w.cell? ⟨Nb, no, none⟩ = some (.int .i64 v)) (hnf : w.frozen? ⟨Nb, no, none⟩ = false) (hne : Nb ≠ P) (hA : ∀ a, A = some a → a.block ≠ P ∧ a.block ≠ Nb) (hk : k = 1 ∨ k = 4 ∨ k = 8) (hkn : k ≤ n) (hlo : lo ≤ s64 (beN (bs.take k))) (hhi : ¬ s64 (beN (bs.take k)) ≤ hi) :
    Calls Try.prog 79 #[.pointer (some ⟨P, 0, none⟩), .pointer (some ⟨Nb, no, none⟩), .int .i64 (k : Int), .int .i64 lo, .int .i64 hi] w fun e w' => e = .panicked boom ∧ Chg (fun i => i = P ∨ i = Nb) w w' := by
  have c0 : w.cell? ⟨P, 0, none⟩ = some (.slice A n c) := (hP.cell 0).trans rfl
  have c1 : w.cell? ⟨P, 1, none⟩ = some (.bool true) := (hP.cell 1).trans rfl
  have g1 : (k : Int) ≤ (n : Int) := by omega
  have KY := Lib.hid (fun w => check_yes w)
  have KN := Lib.hid (fun w => check_no w)
  go_enter Try.func79, Try.ntmps79
  go_wp2_with fail
  refine (KY.out _).mono ?_
  rintro e w1 ⟨rfl, rfl⟩
  have g2 : (k : Int) ≤ (c : Int) := by omega
  have c00 : (w1.setCell ⟨Nb, no, none⟩ (.int .i64 0)).cell? ⟨P, 0, none⟩ = some (.slice A n c) := ((hP.far (p := ⟨Nb, no, none⟩) hne.symm _).cell 0).trans rfl
  have HP := Lib.hid hP
  have HBS := Lib.hid hb
  have HA := Lib.hid hA
  have HN := Lib.hid (And.intro hnc hnf)
  have HK := Lib.hid (And.intro hk (And.intro hkn hn))
  have HI := Lib.hid (And.intro hlo hhi)
  clear hP hb hA hk hlo hhi hn
  go_wp2_with fail
  go_loopw [34] (fun y wr => ∃ i : Nat, i ≤ k ∧ y = .int .i64 (i : Int) ∧ wr = w1.setCell ⟨Nb, no, none⟩ (.int .i64 (s64 (beN (bs.take i))))) (fun y _ => k - (intOf y).toNat)
  case atStart => exact ⟨0, Nat.zero_le _, rfl, by simp [beN, s64]⟩
  case round =>
    obtain ⟨i, hi, rfl, rfl⟩ := hrel
    have d1 : ∀ u, (w1.setCell ⟨Nb, no, none⟩ u).cell? ⟨Nb, no, none⟩ = some u := fun u => World.cell?_setCell_same' _ _ _ (by rw [HN.out.1]; rfl)
    have d2 : ∀ u, (w1.setCell ⟨Nb, no, none⟩ u).frozen? ⟨Nb, no, none⟩ = false := fun u => by rw [World.frozen?_setCell]; exact HN.out.2
    have d3 : ∀ u, (w1.setCell ⟨Nb, no, none⟩ u).cell? ⟨P, 0, none⟩ = some (.slice A n c) := fun u => ((HP.out.far (p := ⟨Nb, no, none⟩) hne.symm _).cell 0).trans rfl
    by_cases hlt : i < k
    · have i1 : (i : Int) < (k : Int) := by omega
      have hk8 : k ≤ 8 := by have := HK.out; omega
      obtain ⟨b, off, rfl, hblt, hcell⟩ := HBS.out.get (k := i) (by have := HK.out; omega)
      have d0 : ∀ u, (w1.setCell ⟨Nb, no, none⟩ u).cell? ⟨b, off + i, none⟩ = some (.int .u8 ((bs[i]'(by have := HK.out; omega)).toNat : Int)) := fun u => by
        rw [World.cell?_setCell_other _ _ _ _ (fun q => (HA.out _ rfl).2 (by injection q with q; exact q.symm))]; exact hcell
      have hU : beN (bs.take i) < 72057594037927936 := by
        have h1 := beN_lt (bs.take i)
        have h2 : (bs.take i).length ≤ 7 := by rw [List.length_take]; have := HK.out; omega
        exact Nat.lt_of_lt_of_le h1 (Nat.pow_le_pow_right (by omega) h2)
      have hV : beN (bs.take (i + 1)) = beN (bs.take i) * 256 + (bs[i]'(by have := HK.out; omega)).toNat := by
        rw [List.take_succ_eq_append_getElem (by have := HK.out; omega), beN_snoc]
      have hx := (bs[i]'(by have := HK.out; omega)).toNat_lt
      have HV := Lib.hid hV
      obtain ⟨U, hUe⟩ : ∃ U, beN (bs.take i) = U := ⟨_, rfl⟩
      obtain ⟨x, hxe⟩ : ∃ x : Nat, (bs[i]'(by have := HK.out; omega)).toNat = x := ⟨_, rfl⟩
      have HUX := Lib.hid (And.intro hUe hxe)
      rw [hUe] at hU ⊢
      rw [hxe] at d0 hx
      rw [s64_small (by omega)]
      have HB := Lib.hid (And.intro hU hx)
      have e1 := d1 (.int .i64 (U : Int))
      have e2 := d2 (.int .i64 (U : Int))
      have e0 := d0 (.int .i64 (U : Int))
      clear hUe hxe hV hcell d0 d1 d2 d3 hU hx
      go_wp2_with fail
      refine ⟨⟨i + 1, hlt, by go_num, ?_⟩, by simp [intOf]; omega⟩
      rw [or_step U x HB.out.1 HB.out.2, Go.Proofs.setCell_setCell, HV.out, HUX.out.1, HUX.out.2]
    · obtain rfl : i = k := by omega
      have i1 : ¬ (i : Int) < (i : Int) := by omega
      have hgo : i ≤ c := by omega
      have hi8 : i ≤ 8 := by have := HK.out; omega
      obtain ⟨V, hVe⟩ : ∃ V, s64 (beN (bs.take i)) = V := ⟨_, rfl⟩
      rw [hVe] at HI ⊢
      obtain ⟨h1, h2⟩ := HI.out
      have e1 := d1 (.int .i64 V)
      have e2 := d2 (.int .i64 V)
      have e3 := d3 (.int .i64 V)
      have e4 : (w1.setCell ⟨Nb, no, none⟩ (.int .i64 V)).frozen? ⟨P, 0, none⟩ = false := (HP.out.far (p := ⟨Nb, no, none⟩) hne.symm _).frozen 0
      have hcut := (HBS.out.far (p := ⟨Nb, no, none⟩) (.int .i64 V) (fun b o e => (HA.out _ e).2)).cut c (k := i) (by have := HK.out; omega) (by have := HK.out; omega)
      have HC := Lib.hid hcut
      have f1 : ∀ u, ((w1.setCell ⟨Nb, no, none⟩ (.int .i64 V)).setCell ⟨P, 0, none⟩ u).cell? ⟨Nb, no, none⟩ = some (.int .i64 V) := fun u => by
        rw [World.cell?_setCell_other _ _ _ _ (fun q => hne (by injection q with q; exact q.symm))]; exact e1
      have f2 : ∀ u, ((w1.setCell ⟨Nb, no, none⟩ (.int .i64 V)).setCell ⟨P, 0, none⟩ u).cell? ⟨P, 1, none⟩ = some (.bool true) := fun u => (((HP.out.far (p := ⟨Nb, no, none⟩) hne.symm _).set_ 0 u).cell 1).trans rfl
      clear d1 d2 d3 hcut
      by_cases hci : c = i
      · have hci' : (c : Int) = (i : Int) := by omega
        rw [if_pos hci] at HC
        go_wp2_with fail
        rw [decide_eq_false (show ¬ V ≤ _ by omega)]
        refine (KN.out _).mono ?_
        rintro e w9 ⟨rfl, rfl⟩
        exact ⟨rfl, rfl, ((Chg.refl _ w1).setCell (.inl (.inr rfl)) _).setCell (.inl (.inl rfl)) _⟩
      · have hci' : ¬ (c : Int) = (i : Int) := by omega
        rw [if_neg hci] at HC
        go_wp2_with fail
        rw [decide_eq_false (show ¬ V ≤ _ by omega)]
        refine (KN.out _).mono ?_
        rintro e w9 ⟨rfl, rfl⟩
        exact ⟨rfl, rfl, ((Chg.refl _ w1).setCell (.inl (.inr rfl)) _).setCell (.inl (.inl rfl)) _⟩
/-- What reading leaves: so many bytes are read, and the message holds that; or it is ended. -/
def RdPost (w0 : World) (P M : Nat) (T : TypeId) (bs : List UInt8) (r : Option (Nat × Array Value)) (e : Ending) (w : World) : Prop :=
  match r with
  | some (k, mc) => e = .returned (.tuple #[]) ∧ ∃ A c, RdSt w0 w P M T A c (bs.drop k) mc
  | none => e = .panicked boom ∧ Chg (fun i => i = P ∨ i = M) w0 w
set_option maxHeartbeats 3200000 in
theorem number_short (w : World) (P Nb no : Nat) (A : Option Addr) (n c k : Nat) (lo hi : Int) (hP : Blk w P 76 #[.slice A n c, .bool true]) (hkn : n < k) :
    Calls Try.prog 79 #[.pointer (some ⟨P, 0, none⟩), .pointer (some ⟨Nb, no, none⟩), .int .i64 (k : Int), .int .i64 lo, .int .i64 hi] w fun e w' => e = .panicked boom ∧ w' = w := by
  have c0 : w.cell? ⟨P, 0, none⟩ = some (.slice A n c) := (hP.cell 0).trans rfl
  have c1 : w.cell? ⟨P, 1, none⟩ = some (.bool true) := (hP.cell 1).trans rfl
  have g1 : ¬ (k : Int) ≤ (n : Int) := by omega
  have KN := Lib.hid (fun w => check_no w)
  clear hP
  go_enter Try.func79, Try.ntmps79
  go_wp2_with fail
  refine (KN.out _).mono ?_
  rintro e w1 ⟨rfl, rfl⟩
  exact ⟨rfl, rfl, rfl⟩
set_option maxHeartbeats 3200000 in
theorem small_any (w0 w : World) (P M : Nat) (T : TypeId) (A : Option Addr) (c : Nat) (bs : List UInt8) (mc : Array Value) (o : Nat) (v : Int) (h : RdSt w0 w P M T A c bs mc) (ho : mc[o]? = some (.int .i64 v)) :
    Calls Try.prog 51 #[.pointer (some ⟨P, 0, none⟩), .pointer (some ⟨M, o, none⟩)] w (RdPost w0 P M T bs (if 1 ≤ bs.length then some (1, mc.setIfInBounds o (.int .i64 (beN (bs.take 1) : Int))) else none)) := by
  have c0 : w.cell? ⟨M, o, none⟩ = some (.int .i64 v) := (h.msg.cell o).trans ho
  by_cases hk : 1 ≤ bs.length
  · rw [if_pos hk]
    have hV : beN (bs.take 1) ≤ 255 := (by have := beN_take_lt bs 1; omega)
    have hk : 1 ≤ bs.length := hk
    obtain ⟨V, hVe⟩ : ∃ V, beN (bs.take 1) = V := ⟨_, rfl⟩
    rw [hVe] at hV ⊢
    have HO := Lib.hid ho
    have H := Lib.hid h
    have HV := Lib.hid (And.intro hVe hV)
    clear h ho hV hVe
    go_enter Try.func51, Try.ntmps51
    go_wp2_with fail
    obtain ⟨hx1, _, hM2, hrd⟩ := H.out.number (.int .i64 (s64 (beN (bs.take 1)))) 2 (v) 1 0 255 (by omega) hk (by rw [HV.out.1, s64_small (by have := HV.out.2; omega)]; omega) (by rw [HV.out.1, s64_small (by have := HV.out.2; omega)]; have := HV.out.2; omega)
    refine hrd.mono ?_
    rintro e w2 ⟨rfl, hw2⟩
    have hx := hx1 (.int .i64 (s64 (beN (bs.take 1)))) (.slice (cutA A c 1) (bs.length - 1) (c - 1))
    rw [← hw2] at hx hM2
    have hstep := H.out.step (.int .i64 (v)) (.int .i64 (s64 (beN (bs.take 1)))) (.int .i64 (V : Int)) 2 1 o hk
    rw [← hw2] at hstep
    rw [HV.out.1, s64_small (by have := HV.out.2; omega)] at hx
    have c1 := (hM2.cell o).trans HO.out
    have z1 := hM2.frozen o
    have HS := Lib.hid hstep
    clear hstep hM2 hrd hx1 hw2
    go_wp2_with fail
    go_end0
    exact ⟨rfl, _, _, HS.out⟩
  · rw [if_neg hk]
    have hX : Blk (w.alloc (.cells #[.int .i64 (v)] 2)) w.heap.size 2 #[.int .i64 (v)] := Blk.last w _ _ rfl
    have KN := Lib.hid ((number_short (w.alloc (.cells #[.int .i64 (v)] 2)) P w.heap.size 0 A bs.length c 1 0 255 (h.pen.alloc _) (by omega)).mono fun e w' ⟨h1, h2⟩ => (⟨h1, by rw [h2]; exact Chg.refl _ _⟩ : e = Ending.panicked boom ∧ Chg (fun i => i = P ∨ i = w.heap.size) (w.alloc (.cells #[.int .i64 (v)] 2)) w'))
    have HC := Lib.hid (h.chg.alloc (.cells #[.int .i64 (v)] 2))
    have HSZ := Lib.hid h.chg.size
    clear h ho hX hk
    go_enter Try.func51, Try.ntmps51
    go_wp2_with fail
    refine KN.out.mono ?_
    rintro e w2 ⟨rfl, hc⟩
    refine ⟨rfl, rfl, HC.out.trans hc fun i hi hq => ?_⟩
    rcases hq with q | q
    · exact .inl q
    · have := HSZ.out; omega
set_option maxHeartbeats 3200000 in
theorem word_any (w0 w : World) (P M : Nat) (T : TypeId) (A : Option Addr) (c : Nat) (bs : List UInt8) (mc : Array Value) (o : Nat) (v : Int) (h : RdSt w0 w P M T A c bs mc) (ho : mc[o]? = some (.int .u32 v)) :
    Calls Try.prog 49 #[.pointer (some ⟨P, 0, none⟩), .pointer (some ⟨M, o, none⟩)] w (RdPost w0 P M T bs (if 4 ≤ bs.length then some (4, mc.setIfInBounds o (.int .u32 (beN (bs.take 4) : Int))) else none)) := by
  have c0 : w.cell? ⟨M, o, none⟩ = some (.int .u32 v) := (h.msg.cell o).trans ho
  by_cases hk : 4 ≤ bs.length
  · rw [if_pos hk]
    have hV : beN (bs.take 4) ≤ 4294967295 := (by have := beN_take_lt bs 4; omega)
    have hk : 4 ≤ bs.length := hk
    obtain ⟨V, hVe⟩ : ∃ V, beN (bs.take 4) = V := ⟨_, rfl⟩
    rw [hVe] at hV ⊢
    have HO := Lib.hid ho
    have H := Lib.hid h
    have HV := Lib.hid (And.intro hVe hV)
    clear h ho hV hVe
    go_enter Try.func49, Try.ntmps49
    go_wp2_with fail
    obtain ⟨hx1, _, hM2, hrd⟩ := H.out.number (.int .i64 (s64 (beN (bs.take 4)))) 2 (wrap64 v) 4 0 4294967295 (by omega) hk (by rw [HV.out.1, s64_small (by have := HV.out.2; omega)]; omega) (by rw [HV.out.1, s64_small (by have := HV.out.2; omega)]; have := HV.out.2; omega)
    refine hrd.mono ?_
    rintro e w2 ⟨rfl, hw2⟩
    have hx := hx1 (.int .i64 (s64 (beN (bs.take 4)))) (.slice (cutA A c 4) (bs.length - 4) (c - 4))
    rw [← hw2] at hx hM2
    have hstep := H.out.step (.int .i64 (wrap64 v)) (.int .i64 (s64 (beN (bs.take 4)))) (.int .u32 (V : Int)) 2 4 o hk
    rw [← hw2] at hstep
    rw [HV.out.1, s64_small (by have := HV.out.2; omega)] at hx
    have c1 := (hM2.cell o).trans HO.out
    have z1 := hM2.frozen o
    have hVb : IntKind.u32.wrap (V : Int) = (V : Int) := by rw [IntKind.wrap_u32]; have := HV.out.2; omega
    have HS := Lib.hid hstep
    clear hstep hM2 hrd hx1 hw2
    go_wp2_with fail
    go_end0
    exact ⟨rfl, _, _, HS.out⟩
  · rw [if_neg hk]
    have hX : Blk (w.alloc (.cells #[.int .i64 (wrap64 v)] 2)) w.heap.size 2 #[.int .i64 (wrap64 v)] := Blk.last w _ _ rfl
    have KN := Lib.hid ((number_short (w.alloc (.cells #[.int .i64 (wrap64 v)] 2)) P w.heap.size 0 A bs.length c 4 0 4294967295 (h.pen.alloc _) (by omega)).mono fun e w' ⟨h1, h2⟩ => (⟨h1, by rw [h2]; exact Chg.refl _ _⟩ : e = Ending.panicked boom ∧ Chg (fun i => i = P ∨ i = w.heap.size) (w.alloc (.cells #[.int .i64 (wrap64 v)] 2)) w'))
    have HC := Lib.hid (h.chg.alloc (.cells #[.int .i64 (wrap64 v)] 2))
    have HSZ := Lib.hid h.chg.size
    clear h ho hX hk
    go_enter Try.func49, Try.ntmps49
    go_wp2_with fail
    refine KN.out.mono ?_
    rintro e w2 ⟨rfl, hc⟩
    refine ⟨rfl, rfl, HC.out.trans hc fun i hi hq => ?_⟩
    rcases hq with q | q
    · exact .inl q
    · have := HSZ.out; omega
set_option maxHeartbeats 3200000 in
theorem errno_any (w0 w : World) (P M : Nat) (T : TypeId) (A : Option Addr) (c : Nat) (bs : List UInt8) (mc : Array Value) (o : Nat) (v : Int) (h : RdSt w0 w P M T A c bs mc) (ho : mc[o]? = some (.int .i64 v)) :
    Calls Try.prog 67 #[.pointer (some ⟨P, 0, none⟩), .pointer (some ⟨M, o, none⟩)] w (RdPost w0 P M T bs (if 1 ≤ bs.length ∧ beN (bs.take 1) ≤ 16 then some (1, mc.setIfInBounds o (.int .i64 (beN (bs.take 1) : Int))) else none)) := by
  have c0 : w.cell? ⟨M, o, none⟩ = some (.int .i64 v) := (h.msg.cell o).trans ho
  by_cases hk : 1 ≤ bs.length ∧ beN (bs.take 1) ≤ 16
  · rw [if_pos hk]
    have hV : beN (bs.take 1) ≤ 16 := hk.2
    have hk : 1 ≤ bs.length := hk.1
    obtain ⟨V, hVe⟩ : ∃ V, beN (bs.take 1) = V := ⟨_, rfl⟩
    rw [hVe] at hV ⊢
    have HO := Lib.hid ho
    have H := Lib.hid h
    have HV := Lib.hid (And.intro hVe hV)
    clear h ho hV hVe
    go_enter Try.func67, Try.ntmps67
    go_wp2_with fail
    obtain ⟨hx1, _, hM2, hrd⟩ := H.out.number (.int .i64 (s64 (beN (bs.take 1)))) 2 (v) 1 0 16 (by omega) hk (by rw [HV.out.1, s64_small (by have := HV.out.2; omega)]; omega) (by rw [HV.out.1, s64_small (by have := HV.out.2; omega)]; have := HV.out.2; omega)
    refine hrd.mono ?_
    rintro e w2 ⟨rfl, hw2⟩
    have hx := hx1 (.int .i64 (s64 (beN (bs.take 1)))) (.slice (cutA A c 1) (bs.length - 1) (c - 1))
    rw [← hw2] at hx hM2
    have hstep := H.out.step (.int .i64 (v)) (.int .i64 (s64 (beN (bs.take 1)))) (.int .i64 (V : Int)) 2 1 o hk
    rw [← hw2] at hstep
    rw [HV.out.1, s64_small (by have := HV.out.2; omega)] at hx
    have c1 := (hM2.cell o).trans HO.out
    have z1 := hM2.frozen o
    have HS := Lib.hid hstep
    clear hstep hM2 hrd hx1 hw2
    go_wp2_with fail
    go_end0
    exact ⟨rfl, _, _, HS.out⟩
  · rw [if_neg hk]
    have hX : Blk (w.alloc (.cells #[.int .i64 (v)] 2)) w.heap.size 2 #[.int .i64 (v)] := Blk.last w _ _ rfl
    have KN := Lib.hid (show Calls Try.prog 79 #[.pointer (some ⟨P, 0, none⟩), .pointer (some ⟨w.heap.size, 0, none⟩), .int .i64 1, .int .i64 0, .int .i64 16] (w.alloc (.cells #[.int .i64 (v)] 2)) fun e w' => e = .panicked boom ∧ Chg (fun i => i = P ∨ i = w.heap.size) (w.alloc (.cells #[.int .i64 (v)] 2)) w' by
      by_cases hs : 1 ≤ bs.length
      · have hV := beN_take_lt bs 1
        exact number_out (w.alloc (.cells #[.int .i64 (v)] 2)) P w.heap.size 0 (v) A bs.length c bs 1 0 16 (h.pen.alloc _) (h.txt.below ((Below.refl _ w).alloc (Nat.le_refl _) _) (Nat.le_refl _)) rfl h.cap ((hX.cell 0).trans rfl) (hX.frozen 0) (Nat.ne_of_gt h.pen.lt) (fun a ha => ⟨(h.ap a ha).1, Nat.ne_of_lt (h.lt ha)⟩) (by omega) hs (by rw [s64_small (by omega)]; omega) (by rw [s64_small (by omega)]; intro q; exact hk ⟨hs, by omega⟩)
      · exact (number_short (w.alloc (.cells #[.int .i64 (v)] 2)) P w.heap.size 0 A bs.length c 1 0 16 (h.pen.alloc _) (by omega)).mono fun e w' ⟨h1, h2⟩ => ⟨h1, by rw [h2]; exact Chg.refl _ _⟩)
    have HC := Lib.hid (h.chg.alloc (.cells #[.int .i64 (v)] 2))
    have HSZ := Lib.hid h.chg.size
    clear h ho hX hk
    go_enter Try.func67, Try.ntmps67
    go_wp2_with fail
    refine KN.out.mono ?_
    rintro e w2 ⟨rfl, hc⟩
    refine ⟨rfl, rfl, HC.out.trans hc fun i hi hq => ?_⟩
    rcases hq with q | q
    · exact .inl q
    · have := HSZ.out; omega
theorem s64_range {n : Nat} (h : n < 18446744073709551616) : -9223372036854775808 ≤ s64 n ∧ s64 n ≤ 9223372036854775807 := by
  unfold s64; split <;> omega
set_option maxHeartbeats 3200000 in
theorem long_any (w0 w : World) (P M : Nat) (T : TypeId) (A : Option Addr) (c : Nat) (bs : List UInt8) (mc : Array Value) (o : Nat) (v : Int) (h : RdSt w0 w P M T A c bs mc) (ho : mc[o]? = some (.int .i64 v)) :
    Calls Try.prog 61 #[.pointer (some ⟨P, 0, none⟩), .pointer (some ⟨M, o, none⟩)] w (RdPost w0 P M T bs (if 8 ≤ bs.length then some (8, mc.setIfInBounds o (.int .i64 (s64 (beN (bs.take 8))))) else none)) := by
  by_cases hk : 8 ≤ bs.length
  · rw [if_pos hk]
    have hr := s64_range (n := beN (bs.take 8)) (by have := beN_take_lt bs 8; omega)
    have KN := Lib.hid (number_read w P M o v A bs.length c bs 8 (-9223372036854775808) 9223372036854775807 h.pen h.txt rfl h.cap ((h.msg.cell o).trans ho) (h.msg.frozen o) h.ne (fun a ha => ⟨(h.ap a ha).1, (h.ap a ha).2.1⟩) (by omega) hk hr.1 hr.2)
    have H := Lib.hid h
    clear h ho hr
    go_enter Try.func61, Try.ntmps61
    go_wp2_with fail
    refine KN.out.mono ?_
    rintro e w2 ⟨rfl, hw2, hb⟩
    have hl : (bs.drop 8).length = bs.length - 8 := by simp
    have HS := Lib.hid (show RdSt w0 w2 P M T (cutA A c 8) (c - 8) (bs.drop 8) (mc.setIfInBounds o (.int .i64 (s64 (beN (bs.take 8))))) from
      ⟨by rw [hl, hw2]; exact (H.out.pen.far (p := ⟨M, o, none⟩) H.out.ne.symm _).set_ 0 _, by rw [hw2]; exact (H.out.msg.set_ o _).far (p := ⟨P, 0, none⟩) H.out.ne _, hb, by rw [hl]; have := H.out.cap; omega, fun a ha => by obtain ⟨a0, e0, e1⟩ := cutA_block ha; rw [e1]; exact H.out.ap a0 e0, H.out.ne, by rw [hw2]; exact (H.out.chg.setCell (.inl (.inr rfl)) _).setCell (.inl (.inl rfl)) _⟩)
    clear hw2 hb hl
    go_wp2_with fail
    go_end0
    exact ⟨rfl, _, _, HS.out⟩
  · rw [if_neg hk]
    have KN := Lib.hid (number_short w P M o A bs.length c 8 (-9223372036854775808) 9223372036854775807 h.pen (by omega))
    have HC := Lib.hid h.chg
    clear h ho hk
    go_enter Try.func61, Try.ntmps61
    go_wp2_with fail
    refine KN.out.mono ?_
    rintro e w2 ⟨rfl, rfl⟩
    exact ⟨rfl, rfl, HC.out⟩
end Go.Proofs.Ytnbcjjgilndlaaa
/- Messages: keys, events, records read, or not. Helper. -/
namespace Go.Proofs.Ytnbcjjgilndlaaa
open Go.RowKit
set_option linter.unusedVariables false
set_option linter.unusedSimpArgs false
set_option maxRecDepth 100000
set_option maxHeartbeats 3200000 in
theorem key_any (w0 w : World) (P M : Nat) (T : TypeId) (A : Option Addr) (c : Nat) (bs : List UInt8) (mc : Array Value) (o : Nat) (v0 v1 v2 : Int) (h : RdSt w0 w P M T A c bs mc) (h0 : mc[o]? = some (.int .i64 v0)) (h1 : mc[(o + 1)]? = some (.int .i64 v1)) (h2 : mc[(o + 2)]? = some (.int .i64 v2)) :
    Calls Try.prog 81 #[.pointer (some ⟨P, 0, none⟩), .pointer (some ⟨M, o, none⟩)] w (RdPost w0 P M T bs (if 17 ≤ bs.length then some (17, (((mc.setIfInBounds o (.int .i64 (s64 (beN (bs.take 8))))).setIfInBounds (o + 1) (.int .i64 (beN ((bs.drop 8).take 1) : Int))).setIfInBounds (o + 2) (.int .i64 (s64 (beN ((bs.drop 9).take 8)))))) else none)) := by
  by_cases hf0 : 0 ≤ bs.length ∧ bs.length < 8
  · rw [if_neg (by omega)]
    have H0 := Lib.hid h0
    have H1 := Lib.hid h1
    have H2 := Lib.hid h2
    have HS0 := Lib.hid h
    clear h h0 h1 h2
    go_enter Try.func81, Try.ntmps81
    go_wp2_with fail
    have k0 := long_any w0 _ P M T _ _ bs mc o v0 HS0.out H0.out
    rw [if_neg (by omega)] at k0
    have K0 := Lib.hid k0
    clear k0
    refine K0.out.mono ?_
    rintro e w1 ⟨rfl, hc⟩
    exact ⟨rfl, rfl, hc⟩
  by_cases hf1 : 8 ≤ bs.length ∧ bs.length < 9
  · rw [if_neg (by omega)]
    have H0 := Lib.hid h0
    have H1 := Lib.hid h1
    have H2 := Lib.hid h2
    have HS0 := Lib.hid h
    clear h h0 h1 h2
    go_enter Try.func81, Try.ntmps81
    go_wp2_with fail
    have k0 := long_any w0 _ P M T _ _ bs mc o v0 HS0.out H0.out
    rw [if_pos (by omega)] at k0
    have K0 := Lib.hid k0
    clear k0
    refine K0.out.mono ?_
    rintro e w1 ⟨rfl, A1, c1, s1⟩
    have HS1 := Lib.hid s1
    clear s1
    go_wp2_with fail
    have k1 := small_any w0 _ P M T _ _ (bs.drop 8) (mc.setIfInBounds o (.int .i64 (s64 (beN (bs.take 8))))) (o + 1) v1 HS1.out (by simpa [Array.getElem?_setIfInBounds] using H1.out)
    rw [if_neg (by simp; omega)] at k1
    have K1 := Lib.hid k1
    clear k1
    refine K1.out.mono ?_
    rintro e w2 ⟨rfl, hc⟩
    exact ⟨rfl, rfl, hc⟩
  by_cases hf2 : 9 ≤ bs.length ∧ bs.length < 17
  · rw [if_neg (by omega)]
    have H0 := Lib.hid h0
    have H1 := Lib.hid h1
    have H2 := Lib.hid h2
    have HS0 := Lib.hid h
    clear h h0 h1 h2
    go_enter Try.func81, Try.ntmps81
    go_wp2_with fail
    have k0 := long_any w0 _ P M T _ _ bs mc o v0 HS0.out H0.out
    rw [if_pos (by omega)] at k0
    have K0 := Lib.hid k0
    clear k0
    refine K0.out.mono ?_
    rintro e w1 ⟨rfl, A1, c1, s1⟩
    have HS1 := Lib.hid s1
    clear s1
    go_wp2_with fail
    have k1 := small_any w0 _ P M T _ _ (bs.drop 8) (mc.setIfInBounds o (.int .i64 (s64 (beN (bs.take 8))))) (o + 1) v1 HS1.out (by simpa [Array.getElem?_setIfInBounds] using H1.out)
    rw [if_pos (by simp; omega)] at k1
    have K1 := Lib.hid k1
    clear k1
    refine K1.out.mono ?_
    rintro e w2 ⟨rfl, A2, c2, s2⟩
    rw [List.drop_drop] at s2
    have HS2 := Lib.hid s2
    clear s2
    go_wp2_with fail
    have k2 := long_any w0 _ P M T _ _ (bs.drop 9) ((mc.setIfInBounds o (.int .i64 (s64 (beN (bs.take 8))))).setIfInBounds (o + 1) (.int .i64 (beN ((bs.drop 8).take 1) : Int))) (o + 2) v2 HS2.out (by simpa [Array.getElem?_setIfInBounds] using H2.out)
    rw [if_neg (by simp; omega)] at k2
    have K2 := Lib.hid k2
    clear k2
    refine K2.out.mono ?_
    rintro e w3 ⟨rfl, hc⟩
    exact ⟨rfl, rfl, hc⟩
  have hf : 17 ≤ bs.length := by omega
  rw [if_pos hf]
  have H0 := Lib.hid h0
  have H1 := Lib.hid h1
  have H2 := Lib.hid h2
  have HS0 := Lib.hid h
  clear h h0 h1 h2
  go_enter Try.func81, Try.ntmps81
  go_wp2_with fail
  have k0 := long_any w0 _ P M T _ _ bs mc o v0 HS0.out H0.out
  rw [if_pos (by omega)] at k0
  have K0 := Lib.hid k0
  clear k0
  refine K0.out.mono ?_
  rintro e w1 ⟨rfl, A1, c1, s1⟩
  have HS1 := Lib.hid s1
  clear s1
  go_wp2_with fail
  have k1 := small_any w0 _ P M T _ _ (bs.drop 8) (mc.setIfInBounds o (.int .i64 (s64 (beN (bs.take 8))))) (o + 1) v1 HS1.out (by simpa [Array.getElem?_setIfInBounds] using H1.out)
  rw [if_pos (by simp; omega)] at k1
  have K1 := Lib.hid k1
  clear k1
  refine K1.out.mono ?_
  rintro e w2 ⟨rfl, A2, c2, s2⟩
  rw [List.drop_drop] at s2
  have HS2 := Lib.hid s2
  clear s2
  go_wp2_with fail
  have k2 := long_any w0 _ P M T _ _ (bs.drop 9) ((mc.setIfInBounds o (.int .i64 (s64 (beN (bs.take 8))))).setIfInBounds (o + 1) (.int .i64 (beN ((bs.drop 8).take 1) : Int))) (o + 2) v2 HS2.out (by simpa [Array.getElem?_setIfInBounds] using H2.out)
  rw [if_pos (by simp; omega)] at k2
  have K2 := Lib.hid k2
  clear k2
  refine K2.out.mono ?_
  rintro e w3 ⟨rfl, A3, c3, s3⟩
  rw [List.drop_drop] at s3
  have HS3 := Lib.hid s3
  clear s3
  go_wp2_with fail
  go_end0
  exact ⟨rfl, _, _, HS3.out⟩
set_option maxHeartbeats 3200000 in
theorem event_any (w0 w : World) (P M : Nat) (T : TypeId) (A : Option Addr) (c : Nat) (bs : List UInt8) (mc : Array Value) (o : Nat) (v0 v1 v2 v3 v4 v5 : Int) (h : RdSt w0 w P M T A c bs mc) (h0 : mc[o]? = some (.int .i64 v0)) (h1 : mc[(o + 1)]? = some (.int .i64 v1)) (h2 : mc[(o + 2)]? = some (.int .i64 v2)) (h3 : mc[(o + 3)]? = some (.int .i64 v3)) (h4 : mc[(o + 4)]? = some (.int .i64 v4)) (h5 : mc[(o + 5)]? = some (.int .i64 v5)) :
    Calls Try.prog 75 #[.pointer (some ⟨P, 0, none⟩), .pointer (some ⟨M, o, none⟩)] w (RdPost w0 P M T bs (if 27 ≤ bs.length then some (27, ((((((mc.setIfInBounds o (.int .i64 (s64 (beN (bs.take 8))))).setIfInBounds (o + 1) (.int .i64 (beN ((bs.drop 8).take 1) : Int))).setIfInBounds (o + 2) (.int .i64 (s64 (beN ((bs.drop 9).take 8))))).setIfInBounds (o + 3) (.int .i64 (beN ((bs.drop 17).take 1) : Int))).setIfInBounds (o + 4) (.int .i64 (beN ((bs.drop 18).take 1) : Int))).setIfInBounds (o + 5) (.int .i64 (s64 (beN ((bs.drop 19).take 8)))))) else none)) := by
  by_cases hf0 : 0 ≤ bs.length ∧ bs.length < 17
  · rw [if_neg (by omega)]
    have H0 := Lib.hid h0
    have H1 := Lib.hid h1
    have H2 := Lib.hid h2
    have H3 := Lib.hid h3
    have H4 := Lib.hid h4
    have H5 := Lib.hid h5
    have HS0 := Lib.hid h
    clear h h0 h1 h2 h3 h4 h5
    go_enter Try.func75, Try.ntmps75
    go_wp2_with fail
    have k0 := key_any w0 _ P M T _ _ bs mc o v0 v1 v2 HS0.out H0.out H1.out H2.out
    rw [if_neg (by omega)] at k0
    have K0 := Lib.hid k0
    clear k0
    refine K0.out.mono ?_
    rintro e w1 ⟨rfl, hc⟩
    exact ⟨rfl, rfl, hc⟩
  by_cases hf1 : 17 ≤ bs.length ∧ bs.length < 18
  · rw [if_neg (by omega)]
    have H0 := Lib.hid h0
    have H1 := Lib.hid h1
    have H2 := Lib.hid h2
    have H3 := Lib.hid h3
    have H4 := Lib.hid h4
    have H5 := Lib.hid h5
    have HS0 := Lib.hid h
    clear h h0 h1 h2 h3 h4 h5
    go_enter Try.func75, Try.ntmps75
    go_wp2_with fail
    have k0 := key_any w0 _ P M T _ _ bs mc o v0 v1 v2 HS0.out H0.out H1.out H2.out
    rw [if_pos (by omega)] at k0
    have K0 := Lib.hid k0
    clear k0
    refine K0.out.mono ?_
    rintro e w1 ⟨rfl, A1, c1, s1⟩
    have HS1 := Lib.hid s1
    clear s1
    go_wp2_with fail
    have k1 := small_any w0 _ P M T _ _ (bs.drop 17) (((mc.setIfInBounds o (.int .i64 (s64 (beN (bs.take 8))))).setIfInBounds (o + 1) (.int .i64 (beN ((bs.drop 8).take 1) : Int))).setIfInBounds (o + 2) (.int .i64 (s64 (beN ((bs.drop 9).take 8))))) (o + 3) v3 HS1.out (by simpa [Array.getElem?_setIfInBounds] using H3.out)
    rw [if_neg (by simp; omega)] at k1
    have K1 := Lib.hid k1
    clear k1
    refine K1.out.mono ?_
    rintro e w2 ⟨rfl, hc⟩
    exact ⟨rfl, rfl, hc⟩
  by_cases hf2 : 18 ≤ bs.length ∧ bs.length < 19
  · rw [if_neg (by omega)]
    have H0 := Lib.hid h0
    have H1 := Lib.hid h1
    have H2 := Lib.hid h2
    have H3 := Lib.hid h3
    have H4 := Lib.hid h4
    have H5 := Lib.hid h5
    have HS0 := Lib.hid h
    clear h h0 h1 h2 h3 h4 h5
    go_enter Try.func75, Try.ntmps75
    go_wp2_with fail
    have k0 := key_any w0 _ P M T _ _ bs mc o v0 v1 v2 HS0.out H0.out H1.out H2.out
    rw [if_pos (by omega)] at k0
    have K0 := Lib.hid k0
    clear k0
    refine K0.out.mono ?_
    rintro e w1 ⟨rfl, A1, c1, s1⟩
    have HS1 := Lib.hid s1
    clear s1
    go_wp2_with fail
    have k1 := small_any w0 _ P M T _ _ (bs.drop 17) (((mc.setIfInBounds o (.int .i64 (s64 (beN (bs.take 8))))).setIfInBounds (o + 1) (.int .i64 (beN ((bs.drop 8).take 1) : Int))).setIfInBounds (o + 2) (.int .i64 (s64 (beN ((bs.drop 9).take 8))))) (o + 3) v3 HS1.out (by simpa [Array.getElem?_setIfInBounds] using H3.out)
    rw [if_pos (by simp; omega)] at k1
    have K1 := Lib.hid k1
    clear k1
    refine K1.out.mono ?_
    rintro e w2 ⟨rfl, A2, c2, s2⟩
    rw [List.drop_drop] at s2
    have HS2 := Lib.hid s2
    clear s2
    go_wp2_with fail
    have k2 := small_any w0 _ P M T _ _ (bs.drop 18) ((((mc.setIfInBounds o (.int .i64 (s64 (beN (bs.take 8))))).setIfInBounds (o + 1) (.int .i64 (beN ((bs.drop 8).take 1) : Int))).setIfInBounds (o + 2) (.int .i64 (s64 (beN ((bs.drop 9).take 8))))).setIfInBounds (o + 3) (.int .i64 (beN ((bs.drop 17).take 1) : Int))) (o + 4) v4 HS2.out (by simpa [Array.getElem?_setIfInBounds] using H4.out)
    rw [if_neg (by simp; omega)] at k2
    have K2 := Lib.hid k2
    clear k2
    refine K2.out.mono ?_
    rintro e w3 ⟨rfl, hc⟩
    exact ⟨rfl, rfl, hc⟩
  by_cases hf3 : 19 ≤ bs.length ∧ bs.length < 27
  · rw [if_neg (by omega)]
    have H0 := Lib.hid h0
    have H1 := Lib.hid h1
    have H2 := Lib.hid h2
    have H3 := Lib.hid h3
    have H4 := Lib.hid h4
    have H5 := Lib.hid h5
    have HS0 := Lib.hid h
    clear h h0 h1 h2 h3 h4 h5
    go_enter Try.func75, Try.ntmps75
    go_wp2_with fail
    have k0 := key_any w0 _ P M T _ _ bs mc o v0 v1 v2 HS0.out H0.out H1.out H2.out
    rw [if_pos (by omega)] at k0
    have K0 := Lib.hid k0
    clear k0
    refine K0.out.mono ?_
    rintro e w1 ⟨rfl, A1, c1, s1⟩
    have HS1 := Lib.hid s1
    clear s1
    go_wp2_with fail
    have k1 := small_any w0 _ P M T _ _ (bs.drop 17) (((mc.setIfInBounds o (.int .i64 (s64 (beN (bs.take 8))))).setIfInBounds (o + 1) (.int .i64 (beN ((bs.drop 8).take 1) : Int))).setIfInBounds (o + 2) (.int .i64 (s64 (beN ((bs.drop 9).take 8))))) (o + 3) v3 HS1.out (by simpa [Array.getElem?_setIfInBounds] using H3.out)
    rw [if_pos (by simp; omega)] at k1
    have K1 := Lib.hid k1
    clear k1
    refine K1.out.mono ?_
    rintro e w2 ⟨rfl, A2, c2, s2⟩
    rw [List.drop_drop] at s2
    have HS2 := Lib.hid s2
    clear s2
    go_wp2_with fail
    have k2 := small_any w0 _ P M T _ _ (bs.drop 18) ((((mc.setIfInBounds o (.int .i64 (s64 (beN (bs.take 8))))).setIfInBounds (o + 1) (.int .i64 (beN ((bs.drop 8).take 1) : Int))).setIfInBounds (o + 2) (.int .i64 (s64 (beN ((bs.drop 9).take 8))))).setIfInBounds (o + 3) (.int .i64 (beN ((bs.drop 17).take 1) : Int))) (o + 4) v4 HS2.out (by simpa [Array.getElem?_setIfInBounds] using H4.out)
    rw [if_pos (by simp; omega)] at k2
    have K2 := Lib.hid k2
    clear k2
    refine K2.out.mono ?_
    rintro e w3 ⟨rfl, A3, c3, s3⟩
    rw [List.drop_drop] at s3
    have HS3 := Lib.hid s3
    clear s3
    go_wp2_with fail
    have k3 := long_any w0 _ P M T _ _ (bs.drop 19) (((((mc.setIfInBounds o (.int .i64 (s64 (beN (bs.take 8))))).setIfInBounds (o + 1) (.int .i64 (beN ((bs.drop 8).take 1) : Int))).setIfInBounds (o + 2) (.int .i64 (s64 (beN ((bs.drop 9).take 8))))).setIfInBounds (o + 3) (.int .i64 (beN ((bs.drop 17).take 1) : Int))).setIfInBounds (o + 4) (.int .i64 (beN ((bs.drop 18).take 1) : Int))) (o + 5) v5 HS3.out (by simpa [Array.getElem?_setIfInBounds] using H5.out)
    rw [if_neg (by simp; omega)] at k3
    have K3 := Lib.hid k3
    clear k3
    refine K3.out.mono ?_
    rintro e w4 ⟨rfl, hc⟩
    exact ⟨rfl, rfl, hc⟩
  have hf : 27 ≤ bs.length := by omega
  rw [if_pos hf]
  have H0 := Lib.hid h0
  have H1 := Lib.hid h1
  have H2 := Lib.hid h2
  have H3 := Lib.hid h3
  have H4 := Lib.hid h4
  have H5 := Lib.hid h5
  have HS0 := Lib.hid h
  clear h h0 h1 h2 h3 h4 h5
  go_enter Try.func75, Try.ntmps75
  go_wp2_with fail
  have k0 := key_any w0 _ P M T _ _ bs mc o v0 v1 v2 HS0.out H0.out H1.out H2.out
  rw [if_pos (by omega)] at k0
  have K0 := Lib.hid k0
  clear k0
  refine K0.out.mono ?_
  rintro e w1 ⟨rfl, A1, c1, s1⟩
  have HS1 := Lib.hid s1
  clear s1
  go_wp2_with fail
  have k1 := small_any w0 _ P M T _ _ (bs.drop 17) (((mc.setIfInBounds o (.int .i64 (s64 (beN (bs.take 8))))).setIfInBounds (o + 1) (.int .i64 (beN ((bs.drop 8).take 1) : Int))).setIfInBounds (o + 2) (.int .i64 (s64 (beN ((bs.drop 9).take 8))))) (o + 3) v3 HS1.out (by simpa [Array.getElem?_setIfInBounds] using H3.out)
  rw [if_pos (by simp; omega)] at k1
  have K1 := Lib.hid k1
  clear k1
  refine K1.out.mono ?_
  rintro e w2 ⟨rfl, A2, c2, s2⟩
  rw [List.drop_drop] at s2
  have HS2 := Lib.hid s2
  clear s2
  go_wp2_with fail
  have k2 := small_any w0 _ P M T _ _ (bs.drop 18) ((((mc.setIfInBounds o (.int .i64 (s64 (beN (bs.take 8))))).setIfInBounds (o + 1) (.int .i64 (beN ((bs.drop 8).take 1) : Int))).setIfInBounds (o + 2) (.int .i64 (s64 (beN ((bs.drop 9).take 8))))).setIfInBounds (o + 3) (.int .i64 (beN ((bs.drop 17).take 1) : Int))) (o + 4) v4 HS2.out (by simpa [Array.getElem?_setIfInBounds] using H4.out)
  rw [if_pos (by simp; omega)] at k2
  have K2 := Lib.hid k2
  clear k2
  refine K2.out.mono ?_
  rintro e w3 ⟨rfl, A3, c3, s3⟩
  rw [List.drop_drop] at s3
  have HS3 := Lib.hid s3
  clear s3
  go_wp2_with fail
  have k3 := long_any w0 _ P M T _ _ (bs.drop 19) (((((mc.setIfInBounds o (.int .i64 (s64 (beN (bs.take 8))))).setIfInBounds (o + 1) (.int .i64 (beN ((bs.drop 8).take 1) : Int))).setIfInBounds (o + 2) (.int .i64 (s64 (beN ((bs.drop 9).take 8))))).setIfInBounds (o + 3) (.int .i64 (beN ((bs.drop 17).take 1) : Int))).setIfInBounds (o + 4) (.int .i64 (beN ((bs.drop 18).take 1) : Int))) (o + 5) v5 HS3.out (by simpa [Array.getElem?_setIfInBounds] using H5.out)
  rw [if_pos (by simp; omega)] at k3
  have K3 := Lib.hid k3
  clear k3
  refine K3.out.mono ?_
  rintro e w4 ⟨rfl, A4, c4, s4⟩
  rw [List.drop_drop] at s4
  have HS4 := Lib.hid s4
  clear s4
  go_wp2_with fail
  go_end0
  exact ⟨rfl, _, _, HS4.out⟩
set_option maxHeartbeats 3200000 in
theorem record_any (w0 w : World) (P M : Nat) (T : TypeId) (A : Option Addr) (c : Nat) (bs : List UInt8) (mc : Array Value) (o : Nat) (v0 v1 v2 v3 v4 v5 : Int) (h : RdSt w0 w P M T A c bs mc) (h0 : mc[o]? = some (.int .i64 v0)) (h1 : mc[(o + 1)]? = some (.int .i64 v1)) (h2 : mc[(o + 2)]? = some (.int .i64 v2)) (h3 : mc[(o + 3)]? = some (.int .i64 v3)) (h4 : mc[(o + 4)]? = some (.int .i64 v4)) (h5 : mc[(o + 5)]? = some (.int .i64 v5)) :
    Calls Try.prog 72 #[.pointer (some ⟨P, 0, none⟩), .pointer (some ⟨M, o, none⟩)] w (RdPost w0 P M T bs (if 27 ≤ bs.length then some (27, ((((((mc.setIfInBounds o (.int .i64 (s64 (beN (bs.take 8))))).setIfInBounds (o + 1) (.int .i64 (beN ((bs.drop 8).take 1) : Int))).setIfInBounds (o + 2) (.int .i64 (s64 (beN ((bs.drop 9).take 8))))).setIfInBounds (o + 3) (.int .i64 (beN ((bs.drop 17).take 1) : Int))).setIfInBounds (o + 4) (.int .i64 (beN ((bs.drop 18).take 1) : Int))).setIfInBounds (o + 5) (.int .i64 (s64 (beN ((bs.drop 19).take 8)))))) else none)) := by
  by_cases hf0 : 0 ≤ bs.length ∧ bs.length < 17
  · rw [if_neg (by omega)]
    have H0 := Lib.hid h0
    have H1 := Lib.hid h1
    have H2 := Lib.hid h2
    have H3 := Lib.hid h3
    have H4 := Lib.hid h4
    have H5 := Lib.hid h5
    have HS0 := Lib.hid h
    clear h h0 h1 h2 h3 h4 h5
    go_enter Try.func72, Try.ntmps72
    go_wp2_with fail
    have k0 := key_any w0 _ P M T _ _ bs mc o v0 v1 v2 HS0.out H0.out H1.out H2.out
    rw [if_neg (by omega)] at k0
    have K0 := Lib.hid k0
    clear k0
    refine K0.out.mono ?_
    rintro e w1 ⟨rfl, hc⟩
    exact ⟨rfl, rfl, hc⟩
  by_cases hf1 : 17 ≤ bs.length ∧ bs.length < 18
  · rw [if_neg (by omega)]
    have H0 := Lib.hid h0
    have H1 := Lib.hid h1
    have H2 := Lib.hid h2
    have H3 := Lib.hid h3
    have H4 := Lib.hid h4
    have H5 := Lib.hid h5
    have HS0 := Lib.hid h
    clear h h0 h1 h2 h3 h4 h5
    go_enter Try.func72, Try.ntmps72
    go_wp2_with fail
    have k0 := key_any w0 _ P M T _ _ bs mc o v0 v1 v2 HS0.out H0.out H1.out H2.out
    rw [if_pos (by omega)] at k0
    have K0 := Lib.hid k0
    clear k0
    refine K0.out.mono ?_
    rintro e w1 ⟨rfl, A1, c1, s1⟩
    have HS1 := Lib.hid s1
    clear s1
    go_wp2_with fail
    have k1 := small_any w0 _ P M T _ _ (bs.drop 17) (((mc.setIfInBounds o (.int .i64 (s64 (beN (bs.take 8))))).setIfInBounds (o + 1) (.int .i64 (beN ((bs.drop 8).take 1) : Int))).setIfInBounds (o + 2) (.int .i64 (s64 (beN ((bs.drop 9).take 8))))) (o + 3) v3 HS1.out (by simpa [Array.getElem?_setIfInBounds] using H3.out)
    rw [if_neg (by simp; omega)] at k1
    have K1 := Lib.hid k1
    clear k1
    refine K1.out.mono ?_
    rintro e w2 ⟨rfl, hc⟩
    exact ⟨rfl, rfl, hc⟩
  by_cases hf2 : 18 ≤ bs.length ∧ bs.length < 19
  · rw [if_neg (by omega)]
    have H0 := Lib.hid h0
    have H1 := Lib.hid h1
    have H2 := Lib.hid h2
    have H3 := Lib.hid h3
    have H4 := Lib.hid h4
    have H5 := Lib.hid h5
    have HS0 := Lib.hid h
    clear h h0 h1 h2 h3 h4 h5
    go_enter Try.func72, Try.ntmps72
    go_wp2_with fail
    have k0 := key_any w0 _ P M T _ _ bs mc o v0 v1 v2 HS0.out H0.out H1.out H2.out
    rw [if_pos (by omega)] at k0
    have K0 := Lib.hid k0
    clear k0
    refine K0.out.mono ?_
    rintro e w1 ⟨rfl, A1, c1, s1⟩
    have HS1 := Lib.hid s1
    clear s1
    go_wp2_with fail
    have k1 := small_any w0 _ P M T _ _ (bs.drop 17) (((mc.setIfInBounds o (.int .i64 (s64 (beN (bs.take 8))))).setIfInBounds (o + 1) (.int .i64 (beN ((bs.drop 8).take 1) : Int))).setIfInBounds (o + 2) (.int .i64 (s64 (beN ((bs.drop 9).take 8))))) (o + 3) v3 HS1.out (by simpa [Array.getElem?_setIfInBounds] using H3.out)
    rw [if_pos (by simp; omega)] at k1
    have K1 := Lib.hid k1
    clear k1
    refine K1.out.mono ?_
    rintro e w2 ⟨rfl, A2, c2, s2⟩
    rw [List.drop_drop] at s2
    have HS2 := Lib.hid s2
    clear s2
    go_wp2_with fail
    have k2 := small_any w0 _ P M T _ _ (bs.drop 18) ((((mc.setIfInBounds o (.int .i64 (s64 (beN (bs.take 8))))).setIfInBounds (o + 1) (.int .i64 (beN ((bs.drop 8).take 1) : Int))).setIfInBounds (o + 2) (.int .i64 (s64 (beN ((bs.drop 9).take 8))))).setIfInBounds (o + 3) (.int .i64 (beN ((bs.drop 17).take 1) : Int))) (o + 4) v4 HS2.out (by simpa [Array.getElem?_setIfInBounds] using H4.out)
    rw [if_neg (by simp; omega)] at k2
    have K2 := Lib.hid k2
    clear k2
    refine K2.out.mono ?_
    rintro e w3 ⟨rfl, hc⟩
    exact ⟨rfl, rfl, hc⟩
  by_cases hf3 : 19 ≤ bs.length ∧ bs.length < 27
  · rw [if_neg (by omega)]
    have H0 := Lib.hid h0
    have H1 := Lib.hid h1
    have H2 := Lib.hid h2
    have H3 := Lib.hid h3
    have H4 := Lib.hid h4
    have H5 := Lib.hid h5
    have HS0 := Lib.hid h
    clear h h0 h1 h2 h3 h4 h5
    go_enter Try.func72, Try.ntmps72
    go_wp2_with fail
    have k0 := key_any w0 _ P M T _ _ bs mc o v0 v1 v2 HS0.out H0.out H1.out H2.out
    rw [if_pos (by omega)] at k0
    have K0 := Lib.hid k0
    clear k0
    refine K0.out.mono ?_
    rintro e w1 ⟨rfl, A1, c1, s1⟩
    have HS1 := Lib.hid s1
    clear s1
    go_wp2_with fail
    have k1 := small_any w0 _ P M T _ _ (bs.drop 17) (((mc.setIfInBounds o (.int .i64 (s64 (beN (bs.take 8))))).setIfInBounds (o + 1) (.int .i64 (beN ((bs.drop 8).take 1) : Int))).setIfInBounds (o + 2) (.int .i64 (s64 (beN ((bs.drop 9).take 8))))) (o + 3) v3 HS1.out (by simpa [Array.getElem?_setIfInBounds] using H3.out)
    rw [if_pos (by simp; omega)] at k1
    have K1 := Lib.hid k1
    clear k1
    refine K1.out.mono ?_
    rintro e w2 ⟨rfl, A2, c2, s2⟩
    rw [List.drop_drop] at s2
    have HS2 := Lib.hid s2
    clear s2
    go_wp2_with fail
    have k2 := small_any w0 _ P M T _ _ (bs.drop 18) ((((mc.setIfInBounds o (.int .i64 (s64 (beN (bs.take 8))))).setIfInBounds (o + 1) (.int .i64 (beN ((bs.drop 8).take 1) : Int))).setIfInBounds (o + 2) (.int .i64 (s64 (beN ((bs.drop 9).take 8))))).setIfInBounds (o + 3) (.int .i64 (beN ((bs.drop 17).take 1) : Int))) (o + 4) v4 HS2.out (by simpa [Array.getElem?_setIfInBounds] using H4.out)
    rw [if_pos (by simp; omega)] at k2
    have K2 := Lib.hid k2
    clear k2
    refine K2.out.mono ?_
    rintro e w3 ⟨rfl, A3, c3, s3⟩
    rw [List.drop_drop] at s3
    have HS3 := Lib.hid s3
    clear s3
    go_wp2_with fail
    have k3 := long_any w0 _ P M T _ _ (bs.drop 19) (((((mc.setIfInBounds o (.int .i64 (s64 (beN (bs.take 8))))).setIfInBounds (o + 1) (.int .i64 (beN ((bs.drop 8).take 1) : Int))).setIfInBounds (o + 2) (.int .i64 (s64 (beN ((bs.drop 9).take 8))))).setIfInBounds (o + 3) (.int .i64 (beN ((bs.drop 17).take 1) : Int))).setIfInBounds (o + 4) (.int .i64 (beN ((bs.drop 18).take 1) : Int))) (o + 5) v5 HS3.out (by simpa [Array.getElem?_setIfInBounds] using H5.out)
    rw [if_neg (by simp; omega)] at k3
    have K3 := Lib.hid k3
    clear k3
    refine K3.out.mono ?_
    rintro e w4 ⟨rfl, hc⟩
    exact ⟨rfl, rfl, hc⟩
  have hf : 27 ≤ bs.length := by omega
  rw [if_pos hf]
  have H0 := Lib.hid h0
  have H1 := Lib.hid h1
  have H2 := Lib.hid h2
  have H3 := Lib.hid h3
  have H4 := Lib.hid h4
  have H5 := Lib.hid h5
  have HS0 := Lib.hid h
  clear h h0 h1 h2 h3 h4 h5
  go_enter Try.func72, Try.ntmps72
  go_wp2_with fail
  have k0 := key_any w0 _ P M T _ _ bs mc o v0 v1 v2 HS0.out H0.out H1.out H2.out
  rw [if_pos (by omega)] at k0
  have K0 := Lib.hid k0
  clear k0
  refine K0.out.mono ?_
  rintro e w1 ⟨rfl, A1, c1, s1⟩
  have HS1 := Lib.hid s1
  clear s1
  go_wp2_with fail
  have k1 := small_any w0 _ P M T _ _ (bs.drop 17) (((mc.setIfInBounds o (.int .i64 (s64 (beN (bs.take 8))))).setIfInBounds (o + 1) (.int .i64 (beN ((bs.drop 8).take 1) : Int))).setIfInBounds (o + 2) (.int .i64 (s64 (beN ((bs.drop 9).take 8))))) (o + 3) v3 HS1.out (by simpa [Array.getElem?_setIfInBounds] using H3.out)
  rw [if_pos (by simp; omega)] at k1
  have K1 := Lib.hid k1
  clear k1
  refine K1.out.mono ?_
  rintro e w2 ⟨rfl, A2, c2, s2⟩
  rw [List.drop_drop] at s2
  have HS2 := Lib.hid s2
  clear s2
  go_wp2_with fail
  have k2 := small_any w0 _ P M T _ _ (bs.drop 18) ((((mc.setIfInBounds o (.int .i64 (s64 (beN (bs.take 8))))).setIfInBounds (o + 1) (.int .i64 (beN ((bs.drop 8).take 1) : Int))).setIfInBounds (o + 2) (.int .i64 (s64 (beN ((bs.drop 9).take 8))))).setIfInBounds (o + 3) (.int .i64 (beN ((bs.drop 17).take 1) : Int))) (o + 4) v4 HS2.out (by simpa [Array.getElem?_setIfInBounds] using H4.out)
  rw [if_pos (by simp; omega)] at k2
  have K2 := Lib.hid k2
  clear k2
  refine K2.out.mono ?_
  rintro e w3 ⟨rfl, A3, c3, s3⟩
  rw [List.drop_drop] at s3
  have HS3 := Lib.hid s3
  clear s3
  go_wp2_with fail
  have k3 := long_any w0 _ P M T _ _ (bs.drop 19) (((((mc.setIfInBounds o (.int .i64 (s64 (beN (bs.take 8))))).setIfInBounds (o + 1) (.int .i64 (beN ((bs.drop 8).take 1) : Int))).setIfInBounds (o + 2) (.int .i64 (s64 (beN ((bs.drop 9).take 8))))).setIfInBounds (o + 3) (.int .i64 (beN ((bs.drop 17).take 1) : Int))).setIfInBounds (o + 4) (.int .i64 (beN ((bs.drop 18).take 1) : Int))) (o + 5) v5 HS3.out (by simpa [Array.getElem?_setIfInBounds] using H5.out)
  rw [if_pos (by simp; omega)] at k3
  have K3 := Lib.hid k3
  clear k3
  refine K3.out.mono ?_
  rintro e w4 ⟨rfl, A4, c4, s4⟩
  rw [List.drop_drop] at s4
  have HS4 := Lib.hid s4
  clear s4
  go_wp2_with fail
  go_end0
  exact ⟨rfl, _, _, HS4.out⟩
set_option maxHeartbeats 3200000 in
theorem asked_any (w0 w : World) (P M : Nat) (T : TypeId) (A : Option Addr) (c : Nat) (bs : List UInt8) (mc : Array Value) (o : Nat) (v0 v3 v4 v5 : Int) (h : RdSt w0 w P M T A c bs mc) (h0 : mc[o]? = some (.int .i64 v0)) (h3 : mc[(o + 3)]? = some (.int .i64 v3)) (h4 : mc[(o + 4)]? = some (.int .i64 v4)) (h5 : mc[(o + 5)]? = some (.int .i64 v5)) (hz1 : mc[o + 1]? = some (.int .i64 0)) (hz2 : mc[o + 2]? = some (.int .i64 0)) :
    Calls Try.prog 55 #[.pointer (some ⟨P, 0, none⟩), .pointer (some ⟨M, o, none⟩)] w (RdPost w0 P M T bs (if 18 ≤ bs.length then some (18, ((((mc.setIfInBounds o (.int .i64 (s64 (beN (bs.take 8))))).setIfInBounds (o + 3) (.int .i64 (beN ((bs.drop 8).take 1) : Int))).setIfInBounds (o + 4) (.int .i64 (beN ((bs.drop 9).take 1) : Int))).setIfInBounds (o + 5) (.int .i64 (s64 (beN ((bs.drop 10).take 8)))))) else none)) := by
  have HZ1 := Lib.hid hz1
  have HZ2 := Lib.hid hz2
  clear hz1 hz2
  by_cases hf0 : 0 ≤ bs.length ∧ bs.length < 8
  · rw [if_neg (by omega)]
    have H0 := Lib.hid h0
    have H3 := Lib.hid h3
    have H4 := Lib.hid h4
    have H5 := Lib.hid h5
    have HS0 := Lib.hid h
    clear h h0 h3 h4 h5
    have d1 := (HS0.out.msg.cell _).trans HZ1.out
    have d2 := (HS0.out.msg.cell _).trans HZ2.out
    go_enter Try.func55, Try.ntmps55
    go_wp2_with fail
    refine (check_yes _).mono ?_
    rintro e w9 ⟨rfl, rfl⟩
    go_wp2_with fail
    have k0 := long_any w0 _ P M T _ _ bs mc o v0 HS0.out H0.out
    rw [if_neg (by omega)] at k0
    have K0 := Lib.hid k0
    clear k0
    refine K0.out.mono ?_
    rintro e w1 ⟨rfl, hc⟩
    exact ⟨rfl, rfl, hc⟩
  by_cases hf1 : 8 ≤ bs.length ∧ bs.length < 9
  · rw [if_neg (by omega)]
    have H0 := Lib.hid h0
    have H3 := Lib.hid h3
    have H4 := Lib.hid h4
    have H5 := Lib.hid h5
    have HS0 := Lib.hid h
    clear h h0 h3 h4 h5
    have d1 := (HS0.out.msg.cell _).trans HZ1.out
    have d2 := (HS0.out.msg.cell _).trans HZ2.out
    go_enter Try.func55, Try.ntmps55
    go_wp2_with fail
    refine (check_yes _).mono ?_
    rintro e w9 ⟨rfl, rfl⟩
    go_wp2_with fail
    have k0 := long_any w0 _ P M T _ _ bs mc o v0 HS0.out H0.out
    rw [if_pos (by omega)] at k0
    have K0 := Lib.hid k0
    clear k0
    refine K0.out.mono ?_
    rintro e w1 ⟨rfl, A1, c1, s1⟩
    have HS1 := Lib.hid s1
    clear s1
    go_wp2_with fail
    have k1 := small_any w0 _ P M T _ _ (bs.drop 8) (mc.setIfInBounds o (.int .i64 (s64 (beN (bs.take 8))))) (o + 3) v3 HS1.out (by simpa [Array.getElem?_setIfInBounds] using H3.out)
    rw [if_neg (by simp; omega)] at k1
    have K1 := Lib.hid k1
    clear k1
    refine K1.out.mono ?_
    rintro e w2 ⟨rfl, hc⟩
    exact ⟨rfl, rfl, hc⟩
  by_cases hf2 : 9 ≤ bs.length ∧ bs.length < 10
  · rw [if_neg (by omega)]
    have H0 := Lib.hid h0
    have H3 := Lib.hid h3
    have H4 := Lib.hid h4
    have H5 := Lib.hid h5
    have HS0 := Lib.hid h
    clear h h0 h3 h4 h5
    have d1 := (HS0.out.msg.cell _).trans HZ1.out
    have d2 := (HS0.out.msg.cell _).trans HZ2.out
    go_enter Try.func55, Try.ntmps55
    go_wp2_with fail
    refine (check_yes _).mono ?_
    rintro e w9 ⟨rfl, rfl⟩
    go_wp2_with fail
    have k0 := long_any w0 _ P M T _ _ bs mc o v0 HS0.out H0.out
    rw [if_pos (by omega)] at k0
    have K0 := Lib.hid k0
    clear k0
    refine K0.out.mono ?_
    rintro e w1 ⟨rfl, A1, c1, s1⟩
    have HS1 := Lib.hid s1
    clear s1
    go_wp2_with fail
    have k1 := small_any w0 _ P M T _ _ (bs.drop 8) (mc.setIfInBounds o (.int .i64 (s64 (beN (bs.take 8))))) (o + 3) v3 HS1.out (by simpa [Array.getElem?_setIfInBounds] using H3.out)
    rw [if_pos (by simp; omega)] at k1
    have K1 := Lib.hid k1
    clear k1
    refine K1.out.mono ?_
    rintro e w2 ⟨rfl, A2, c2, s2⟩
    rw [List.drop_drop] at s2
    have HS2 := Lib.hid s2
    clear s2
    go_wp2_with fail
    have k2 := small_any w0 _ P M T _ _ (bs.drop 9) ((mc.setIfInBounds o (.int .i64 (s64 (beN (bs.take 8))))).setIfInBounds (o + 3) (.int .i64 (beN ((bs.drop 8).take 1) : Int))) (o + 4) v4 HS2.out (by simpa [Array.getElem?_setIfInBounds] using H4.out)
    rw [if_neg (by simp; omega)] at k2
    have K2 := Lib.hid k2
    clear k2
    refine K2.out.mono ?_
    rintro e w3 ⟨rfl, hc⟩
    exact ⟨rfl, rfl, hc⟩
  by_cases hf3 : 10 ≤ bs.length ∧ bs.length < 18
  · rw [if_neg (by omega)]
    have H0 := Lib.hid h0
    have H3 := Lib.hid h3
    have H4 := Lib.hid h4
    have H5 := Lib.hid h5
    have HS0 := Lib.hid h
    clear h h0 h3 h4 h5
    have d1 := (HS0.out.msg.cell _).trans HZ1.out
    have d2 := (HS0.out.msg.cell _).trans HZ2.out
    go_enter Try.func55, Try.ntmps55
    go_wp2_with fail
    refine (check_yes _).mono ?_
    rintro e w9 ⟨rfl, rfl⟩
    go_wp2_with fail
    have k0 := long_any w0 _ P M T _ _ bs mc o v0 HS0.out H0.out
    rw [if_pos (by omega)] at k0
    have K0 := Lib.hid k0
    clear k0
    refine K0.out.mono ?_
    rintro e w1 ⟨rfl, A1, c1, s1⟩
    have HS1 := Lib.hid s1
    clear s1
    go_wp2_with fail
    have k1 := small_any w0 _ P M T _ _ (bs.drop 8) (mc.setIfInBounds o (.int .i64 (s64 (beN (bs.take 8))))) (o + 3) v3 HS1.out (by simpa [Array.getElem?_setIfInBounds] using H3.out)
    rw [if_pos (by simp; omega)] at k1
    have K1 := Lib.hid k1
    clear k1
    refine K1.out.mono ?_
    rintro e w2 ⟨rfl, A2, c2, s2⟩
    rw [List.drop_drop] at s2
    have HS2 := Lib.hid s2
    clear s2
    go_wp2_with fail
    have k2 := small_any w0 _ P M T _ _ (bs.drop 9) ((mc.setIfInBounds o (.int .i64 (s64 (beN (bs.take 8))))).setIfInBounds (o + 3) (.int .i64 (beN ((bs.drop 8).take 1) : Int))) (o + 4) v4 HS2.out (by simpa [Array.getElem?_setIfInBounds] using H4.out)
    rw [if_pos (by simp; omega)] at k2
    have K2 := Lib.hid k2
    clear k2
    refine K2.out.mono ?_
    rintro e w3 ⟨rfl, A3, c3, s3⟩
    rw [List.drop_drop] at s3
    have HS3 := Lib.hid s3
    clear s3
    go_wp2_with fail
    have k3 := long_any w0 _ P M T _ _ (bs.drop 10) (((mc.setIfInBounds o (.int .i64 (s64 (beN (bs.take 8))))).setIfInBounds (o + 3) (.int .i64 (beN ((bs.drop 8).take 1) : Int))).setIfInBounds (o + 4) (.int .i64 (beN ((bs.drop 9).take 1) : Int))) (o + 5) v5 HS3.out (by simpa [Array.getElem?_setIfInBounds] using H5.out)
    rw [if_neg (by simp; omega)] at k3
    have K3 := Lib.hid k3
    clear k3
    refine K3.out.mono ?_
    rintro e w4 ⟨rfl, hc⟩
    exact ⟨rfl, rfl, hc⟩
  have hf : 18 ≤ bs.length := by omega
  rw [if_pos hf]
  have H0 := Lib.hid h0
  have H3 := Lib.hid h3
  have H4 := Lib.hid h4
  have H5 := Lib.hid h5
  have HS0 := Lib.hid h
  clear h h0 h3 h4 h5
  have d1 := (HS0.out.msg.cell _).trans HZ1.out
  have d2 := (HS0.out.msg.cell _).trans HZ2.out
  go_enter Try.func55, Try.ntmps55
  go_wp2_with fail
  refine (check_yes _).mono ?_
  rintro e w9 ⟨rfl, rfl⟩
  go_wp2_with fail
  have k0 := long_any w0 _ P M T _ _ bs mc o v0 HS0.out H0.out
  rw [if_pos (by omega)] at k0
  have K0 := Lib.hid k0
  clear k0
  refine K0.out.mono ?_
  rintro e w1 ⟨rfl, A1, c1, s1⟩
  have HS1 := Lib.hid s1
  clear s1
  go_wp2_with fail
  have k1 := small_any w0 _ P M T _ _ (bs.drop 8) (mc.setIfInBounds o (.int .i64 (s64 (beN (bs.take 8))))) (o + 3) v3 HS1.out (by simpa [Array.getElem?_setIfInBounds] using H3.out)
  rw [if_pos (by simp; omega)] at k1
  have K1 := Lib.hid k1
  clear k1
  refine K1.out.mono ?_
  rintro e w2 ⟨rfl, A2, c2, s2⟩
  rw [List.drop_drop] at s2
  have HS2 := Lib.hid s2
  clear s2
  go_wp2_with fail
  have k2 := small_any w0 _ P M T _ _ (bs.drop 9) ((mc.setIfInBounds o (.int .i64 (s64 (beN (bs.take 8))))).setIfInBounds (o + 3) (.int .i64 (beN ((bs.drop 8).take 1) : Int))) (o + 4) v4 HS2.out (by simpa [Array.getElem?_setIfInBounds] using H4.out)
  rw [if_pos (by simp; omega)] at k2
  have K2 := Lib.hid k2
  clear k2
  refine K2.out.mono ?_
  rintro e w3 ⟨rfl, A3, c3, s3⟩
  rw [List.drop_drop] at s3
  have HS3 := Lib.hid s3
  clear s3
  go_wp2_with fail
  have k3 := long_any w0 _ P M T _ _ (bs.drop 10) (((mc.setIfInBounds o (.int .i64 (s64 (beN (bs.take 8))))).setIfInBounds (o + 3) (.int .i64 (beN ((bs.drop 8).take 1) : Int))).setIfInBounds (o + 4) (.int .i64 (beN ((bs.drop 9).take 1) : Int))) (o + 5) v5 HS3.out (by simpa [Array.getElem?_setIfInBounds] using H5.out)
  rw [if_pos (by simp; omega)] at k3
  have K3 := Lib.hid k3
  clear k3
  refine K3.out.mono ?_
  rintro e w4 ⟨rfl, A4, c4, s4⟩
  rw [List.drop_drop] at s4
  have HS4 := Lib.hid s4
  clear s4
  go_wp2_with fail
  go_end0
  exact ⟨rfl, _, _, HS4.out⟩
/-- A number read into a box beside the message. -/
theorem RdSt.beside {w0 w : World} {P M : Nat} {T : TypeId} {A : Option Addr} {c : Nat} {bs : List UInt8} {mc : Array Value} (h : RdSt w0 w P M T A c bs mc) {X : Nat} {v : Int} (hX : Blk w X 3 #[.int .i64 v]) (hXP : X ≠ P) (hXM : X ≠ M) (hXA : ∀ a, A = some a → a.block ≠ X) (hX0 : w0.heap.size ≤ X) (x0 V u : Value) (k : Nat) (hk : k ≤ bs.length) :
    RdSt w0 ((((w.alloc (.cells #[x0] 2)).setCell ⟨w.heap.size, 0, none⟩ V).setCell ⟨P, 0, none⟩ (.slice (cutA A c k) (bs.length - k) (c - k))).setCell ⟨X, 0, none⟩ u) P M T (cutA A c k) (c - k) (bs.drop k) mc ∧ Blk ((((w.alloc (.cells #[x0] 2)).setCell ⟨w.heap.size, 0, none⟩ V).setCell ⟨P, 0, none⟩ (.slice (cutA A c k) (bs.length - k) (c - k))).setCell ⟨X, 0, none⟩ u) X 3 #[u] := by
  have hx1 : P ≠ w.heap.size := Nat.ne_of_lt h.pen.lt
  have hx2 : M ≠ w.heap.size := Nat.ne_of_lt h.msg.lt
  have hx3 : X ≠ w.heap.size := Nat.ne_of_lt hX.lt
  have hl : (bs.drop k).length = bs.length - k := by simp
  refine ⟨⟨?_, ?_, ?_, by rw [hl]; have := h.cap; omega, fun a ha => ?_, h.ne, ?_⟩, ?_⟩
  · rw [hl]
    exact (((h.pen.alloc _).far (p := ⟨w.heap.size, 0, none⟩) hx1 _).set_ 0 _).far (p := ⟨X, 0, none⟩) hXP.symm _
  · exact (((h.msg.alloc _).far (p := ⟨w.heap.size, 0, none⟩) hx2 _).far (p := ⟨P, 0, none⟩) h.ne _).far (p := ⟨X, 0, none⟩) hXM.symm _
  · have h1 : BytesAt (w.alloc (.cells #[x0] 2)) A bs := h.txt.below ((Below.refl _ w).alloc (Nat.le_refl _) _) (Nat.le_refl _)
    have h2 := h1.cut c hk h.cap
    refine ((h2.far (p := ⟨w.heap.size, 0, none⟩) V fun b o e => ?_).far (p := ⟨P, 0, none⟩) _ fun b o e => ?_).far (p := ⟨X, 0, none⟩) u fun b o e => ?_
    · obtain ⟨a0, e0, e1⟩ := cutA_block (c := c) (k := k) e
      have := h.lt e0; have e1 : b = a0.block := e1; show b ≠ w.heap.size; omega
    · obtain ⟨a0, e0, e1⟩ := cutA_block (c := c) (k := k) e
      have e1 : b = a0.block := e1
      rw [e1]; exact (h.ap a0 e0).1
    · obtain ⟨a0, e0, e1⟩ := cutA_block (c := c) (k := k) e
      have e1 : b = a0.block := e1
      rw [e1]; exact hXA a0 e0
  · obtain ⟨a0, e0, e1⟩ := cutA_block ha
    rw [e1]; exact h.ap a0 e0
  · exact (((h.chg.alloc _).setCell (.inr h.chg.size) _).setCell (.inl (.inl rfl)) _).setCell (.inr hX0) _
  · exact (((hX.alloc _).far (p := ⟨w.heap.size, 0, none⟩) hx3 _).far (p := ⟨P, 0, none⟩) hXP _).set_ 0 u
set_option maxHeartbeats 3200000 in
theorem small_side (w0 w : World) (P M : Nat) (T : TypeId) (A : Option Addr) (c : Nat) (bs : List UInt8) (mc : Array Value) (X : Nat) (v : Int) (h : RdSt w0 w P M T A c bs mc) (hX : Blk w X 3 #[.int .i64 v]) (hXP : X ≠ P) (hXM : X ≠ M) (hXA : ∀ a, A = some a → a.block ≠ X) (hX0 : w0.heap.size ≤ X) :
    Calls Try.prog 51 #[.pointer (some ⟨P, 0, none⟩), .pointer (some ⟨X, 0, none⟩)] w fun e w' => (1 ≤ bs.length ∧ e = .returned (.tuple #[]) ∧ ∃ A c, RdSt w0 w' P M T A c (bs.drop 1) mc ∧ Blk w' X 3 #[.int .i64 (beN (bs.take 1) : Int)]) ∨ (bs.length < 1 ∧ e = .panicked boom ∧ Chg (fun i => i = P ∨ i = M) w0 w') := by
  have c0 : w.cell? ⟨X, 0, none⟩ = some (.int .i64 v) := (hX.cell 0).trans rfl
  by_cases hk : 1 ≤ bs.length
  · have hV : beN (bs.take 1) ≤ 255 := (by have := beN_take_lt bs 1; omega)
    obtain ⟨V, hVe⟩ : ∃ V, beN (bs.take 1) = V := ⟨_, rfl⟩
    rw [hVe] at hV ⊢
    have H := Lib.hid h
    have HX := Lib.hid (And.intro hX (And.intro hXP (And.intro hXM (And.intro hXA hX0))))
    have HV := Lib.hid (And.intro hVe hV)
    clear h hV hVe hX hXP hXM hXA hX0
    go_enter Try.func51, Try.ntmps51
    go_wp2_with fail
    obtain ⟨hx1, _, hM2, hrd⟩ := H.out.number (.int .i64 (s64 (beN (bs.take 1)))) 2 v 1 0 255 (by omega) hk (by rw [HV.out.1, s64_small (by have := HV.out.2; omega)]; omega) (by rw [HV.out.1, s64_small (by have := HV.out.2; omega)]; have := HV.out.2; omega)
    refine hrd.mono ?_
    rintro e w2 ⟨rfl, hw2⟩
    have hx := hx1 (.int .i64 (s64 (beN (bs.take 1)))) (.slice (cutA A c 1) (bs.length - 1) (c - 1))
    have hX2 : Blk w2 X 3 #[.int .i64 v] := by rw [hw2]; exact ((HX.out.1.alloc _).far (p := ⟨w.heap.size, 0, none⟩) (Nat.ne_of_lt HX.out.1.lt) _).far (p := ⟨P, 0, none⟩) HX.out.2.1 _
    rw [← hw2] at hx
    have hstep := H.out.beside HX.out.1 HX.out.2.1 HX.out.2.2.1 HX.out.2.2.2.1 HX.out.2.2.2.2 (.int .i64 v) (.int .i64 (s64 (beN (bs.take 1)))) (.int .i64 (V : Int)) 1 hk
    rw [← hw2] at hstep
    rw [HV.out.1, s64_small (by have := HV.out.2; omega)] at hx
    have c1 := (hX2.cell 0).trans (show #[Value.int .i64 v][0]? = some (.int .i64 v) from rfl)
    have z1 := hX2.frozen 0
    have HS := Lib.hid hstep
    clear hstep hM2 hrd hx1 hw2 hX2
    go_wp2_with fail
    go_end0
    exact .inl ⟨hk, rfl, _, _, HS.out⟩
  · have KN := Lib.hid ((number_short (w.alloc (.cells #[.int .i64 v] 2)) P w.heap.size 0 A bs.length c 1 0 255 (h.pen.alloc _) (by omega)))
    have HC := Lib.hid (h.chg.alloc (.cells #[.int .i64 v] 2))
    have HK := Lib.hid (show bs.length < 1 by omega)
    clear h hX hk
    go_enter Try.func51, Try.ntmps51
    go_wp2_with fail
    refine KN.out.mono ?_
    rintro e w2 ⟨rfl, rfl⟩
    exact ⟨rfl, .inr ⟨HK.out, rfl, HC.out⟩⟩
end Go.Proofs.Ytnbcjjgilndlaaa
