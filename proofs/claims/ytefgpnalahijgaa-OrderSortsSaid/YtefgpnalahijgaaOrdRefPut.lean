/- Events in order: the document's, walked. Helper. -/
import Derived.Test.YtefgpnalahijgaaOrdRefSort
namespace Go.Proofs.Ytefgpnalahijgaa
open Go.RowKit
set_option linter.unusedVariables false
set_option linter.unusedSimpArgs false
/-- So many have been gone through. -/
def putP (e : Ev) (l : List Ev) (k : Nat) : List Ev × Bool := (l.take k).foldl (putS e) ([], false)
theorem putP_succ (e : Ev) (l : List Ev) {k : Nat} (hk : k < l.length) : putP e l (k + 1) = putS e (putP e l k) l[k] := by
  unfold putP
  rw [List.take_add_one, List.getElem?_eq_getElem hk, List.foldl_append]
  rfl
theorem putP_all (e : Ev) (l : List Ev) : putE e (putP e l l.length) = insO e l := by
  unfold putP
  rw [List.take_length, putE_is, List.nil_append]
theorem Ev.c_one (e : Ev) : ∀ u ∈ e.c, u.oneCell' = true := by rw [← cs_one]; exact cs_oneCell _
/-- An event more. -/
theorem Own.ev {w' : World} {A' : Option Addr} {np c' : Nat} {p : List Ev} {e : Ev} {blk' : Option Nat} (h : Own w' 28 6 (.slice A' (np + 1) c') (np + 1) (cs p ++ e.c) blk') : Own w' 28 6 (.slice A' (np + 1) c') (np + 1) (cs (p ++ [e])) blk' := by
  rw [cs_append, cs_one]; exact h
theorem rd_last (w : World) (t : TypeId) (l : List Value) : Rd (w.alloc (.cells l.toArray t)) (some ⟨w.heap.size, 0, none⟩) l := .inr ⟨_, 0, rfl, fun j u hu => by
  rw [(Blk.last w t l.toArray rfl).cell]; simpa using hu⟩
theorem Own.rdAt {w : World} {e : TypeId} {size : Nat} {A : Option Addr} {n c : Nat} {xs : List Value} {blk : Option Nat} (h : Own w e size (.slice A n c) n xs blk) : Rd w A xs := by
  obtain ⟨A', c', hv, hrd, _, _⟩ := h.rd
  injection hv with e1
  rw [e1]; exact hrd
/-- It has grown. -/
theorem grow_new {w1 wa wb : World} {blk blk' : Option Nat} {o : Obj} (hN : Nw w1 wa) (hb : ∀ g, blk = some g → w1.heap.size ≤ g) (hc : Chg (fun k => some k = blk) (wa.alloc o) wb) (hat : blk' = blk ∨ blk' = some (wa.alloc o).heap.size) : Nw w1 wb ∧ ∀ g, blk' = some g → w1.heap.size ≤ g := by
  have h1 : Nw w1 (wa.alloc o) := hN.alloc _
  refine ⟨Below.trans h1 (hc.below (fun i _ q => hb i q.symm) h1.size), fun g q => ?_⟩
  rcases hat with e | e
  · exact hb g (e ▸ q)
  · rw [e] at q; injection q with q; have := h1.size; omega
section
set_option maxHeartbeats 6400000
set_option maxRecDepth 100000
theorem refPut_any (A : Option Addr) (c : Nat) (l : List Ev) (e : Ev) (w : World) (hA : Rd w A (cs l)) (hl : l.length ≤ 200) :
    Calls Try.prog 26 #[.slice A l.length c, .agg #[.int .i64 e.k.T, .int .i64 e.k.O, .int .i64 e.k.S, .int .i64 e.p, .int .i64 e.q, .int .i64 e.d]] w fun r w' => ∃ A' c' blk, r = .returned (.slice A' (l.length + 1) c') ∧ Own w' 28 6 (.slice A' (l.length + 1) c') (l.length + 1) (cs (insO e l)) blk ∧ Nw w w' ∧ ∀ g, blk = some g → w.heap.size ≤ g := by
  obtain ⟨i0, hi0, hz0, hz1, hz2⟩ := info_parts infoEv
  have HL1 := Lib.hid hi0
  have HL2 := Lib.hid hz0
  have HL3 := Lib.hid hz1
  have HL4 := Lib.hid hz2
  clear hi0 hz0 hz1 hz2
  obtain ⟨w1, hw1⟩ : ∃ w1, w.alloc (.cells #[.int .i64 e.k.T, .int .i64 e.k.O, .int .i64 e.k.S, .int .i64 e.p, .int .i64 e.q, .int .i64 e.d] 28) = w1 := ⟨_, rfl⟩
  have n1 : Nw w w1 := by rw [← hw1]; exact (Nw.refl w).alloc _
  obtain ⟨XB, hXB⟩ : ∃ XB, w.heap.size = XB := ⟨_, rfl⟩
  have hb : Blk w1 XB 28 #[.int .i64 e.k.T, .int .i64 e.k.O, .int .i64 e.k.S, .int .i64 e.p, .int .i64 e.q, .int .i64 e.d] := by rw [← hw1]; exact Blk.last w _ _ hXB
  have HW1 := Lib.hid hw1
  have HXB := Lib.hid hXB
  have HB := Lib.hid hb
  have N1 := Lib.hid n1
  have HA := Lib.hid hA
  have HFIN := Lib.hid (putP_all e l)
  obtain ⟨n, hn⟩ : ∃ n, l.length = n := ⟨_, rfl⟩
  have HN := Lib.hid hn
  rw [hn] at hl HFIN ⊢
  clear hw1 hXB hb n1 hA hn
  go_enter Try.func26, Try.ntmps26
  go_upto_region 1 with (fail)
  rw [HW1.out, HXB.out]
  go_wp2_with fail
  go_loopw [5, 6, 7] (fun x y z wr => ∃ (k np : Nat) (d : Bool) (A1 : Option Addr) (c1 : Nat) (blk : Option Nat), k ≤ n ∧ np ≤ 2 * k ∧ x = .slice A1 np c1 ∧ y = .bool d ∧ z = .int .i64 k ∧
    Hid ((putP e l k).1.length = np ∧ (putP e l k).2 = d ∧ Own wr 28 6 (.slice A1 np c1) np (cs (putP e l k).1) blk ∧ Nw w1 wr ∧ ∀ g, blk = some g → w1.heap.size ≤ g)) (fun _ _ z _ => n - (intOf z).toNat)
  case atStart => exact ⟨0, 0, false, none, 0, none, Nat.zero_le _, by omega, rfl, rfl, rfl, Lib.hid ⟨rfl, rfl, Own.nil _ _ _, Nw.refl _, fun g q => by cases q⟩⟩
  case round =>
    obtain ⟨k, np, d, A1, c1, blk, hk, hnp, rfl, rfl, rfl, HI⟩ := hrel
    by_cases hlt : k < n
    · have g1 : (k : Int) < (n : Int) := by omega
      have hkz : k < l.length := by rw [HN.out]; exact hlt
      obtain ⟨b, o, el, c0, c1', c2, c3, c4, c5⟩ := ev_at HA.out hkz
      have hps := putP_succ e l hkz
      obtain ⟨x, hx⟩ : ∃ x, l[k] = x := ⟨_, rfl⟩
      rw [hx] at c0 c1' c2 c3 c4 c5 hps
      obtain ⟨p, hp⟩ : ∃ p, putP e l k = p := ⟨_, rfl⟩
      have hi := HI.out
      rw [hp] at hps hi
      have HPS := Lib.hid hps
      have HP := Lib.hid hi
      have HC := Lib.hid (fun W (hW : Nw w1 W) => (⟨(N1.out.step hW).cell c0, (N1.out.step hW).cell c1', (N1.out.step hW).cell c2, (N1.out.step hW).cell c3, (N1.out.step hW).cell c4, (N1.out.step hW).cell c5, hW.cell (HB.out.cell 0), hW.cell (HB.out.cell 1), hW.cell (HB.out.cell 2), hW.cell (HB.out.cell 3), hW.cell (HB.out.cell 4), hW.cell (HB.out.cell 5)⟩ :
        W.cell? ⟨b, o + k * 6, none⟩ = some (.int .i64 x.k.T) ∧ W.cell? ⟨b, o + k * 6 + 1, none⟩ = some (.int .i64 x.k.O) ∧ W.cell? ⟨b, o + k * 6 + 2, none⟩ = some (.int .i64 x.k.S) ∧ W.cell? ⟨b, o + k * 6 + 3, none⟩ = some (.int .i64 x.p) ∧ W.cell? ⟨b, o + k * 6 + 4, none⟩ = some (.int .i64 x.q) ∧ W.cell? ⟨b, o + k * 6 + 5, none⟩ = some (.int .i64 x.d) ∧
        W.cell? ⟨XB, 0, none⟩ = some (.int .i64 e.k.T) ∧ W.cell? ⟨XB, 1, none⟩ = some (.int .i64 e.k.O) ∧ W.cell? ⟨XB, 2, none⟩ = some (.int .i64 e.k.S) ∧ W.cell? ⟨XB, 3, none⟩ = some (.int .i64 e.p) ∧ W.cell? ⟨XB, 4, none⟩ = some (.int .i64 e.q) ∧ W.cell? ⟨XB, 5, none⟩ = some (.int .i64 e.d)))
      have HEL := Lib.hid el
      clear c0 c1' c2 c3 c4 c5 hps hi hx hp HI
      subst el
      have NR := Lib.hid HP.out.2.2.2.1
      obtain ⟨B, hB⟩ : ∃ B, (!d && e.k.less x.k) = B := ⟨_, rfl⟩
      have HBB := Lib.hid hB
      clear hB
      go_upto_region 6 with (fail)
      go_cut [25] (fun v wx => v = .bool B ∧ Hid (Nw wr wx))
      case first =>
        obtain ⟨x0, x1, x2, x3, x4, x5, e0, e1, e2, e3, e4, e5⟩ := HC.out wr NR.out
        cases d with
        | true =>
          go_wp2_with fail
          go_quiet (fail)
          go_wp2_with fail
          go_meet
          exact ⟨by rw [← HBB.out]; rfl, Lib.hid (Below.many (Nw.refl wr) _)⟩
        | false =>
          have KL := Lib.hid (fun W => refLess_any e.k x.k W)
          have hbl : e.k.less x.k = B := by rw [← HBB.out]; rfl
          rw [hbl] at KL
          clear hbl
          go_region_held3 (fun W => Nw wr W ∧ W.cell? ⟨b, o + k * 6, none⟩ = some (.int .i64 x.k.T) ∧ W.cell? ⟨b, o + k * 6 + 1, none⟩ = some (.int .i64 x.k.O) ∧ W.cell? ⟨b, o + k * 6 + 2, none⟩ = some (.int .i64 x.k.S) ∧ W.cell? ⟨XB, 0, none⟩ = some (.int .i64 e.k.T) ∧ W.cell? ⟨XB, 1, none⟩ = some (.int .i64 e.k.O) ∧ W.cell? ⟨XB, 2, none⟩ = some (.int .i64 e.k.S)) ((first | exact ⟨(Nw.refl wr).drew, x0, x1, x2, e0, e1, e2⟩ | exact ⟨by assumption, Nw.cell (by assumption) x0, Nw.cell (by assumption) x1, Nw.cell (by assumption) x2, Nw.cell (by assumption) e0, Nw.cell (by assumption) e1, Nw.cell (by assumption) e2⟩)) ((go_at_call 7; refine (KL.out _).mono ?_; rintro r wz ⟨rfl, bz⟩; have iz : Nw wr wz := Nw.step (by first | assumption | exact (Nw.refl wr).drew) bz))
          all_goals
            go_wp2_with fail
            go_meet
            exact ⟨rfl, Lib.hid iz⟩
      case rest =>
        obtain ⟨rfl, HW⟩ := hcut
        have nC := NR.out.step HW.out
        have hoC := HP.out.2.2.1.kept (fun g hg => HW.out.block g (HP.out.2.2.1.lt g hg))
        obtain ⟨x0, x1, x2, x3, x4, x5, e0, e1, e2, e3, e4, e5⟩ := HC.out wc nC
        have NC := Lib.hid nC
        have HO := Lib.hid hoC
        clear nC hoC
        have hnp2 : np ≤ 400 := by omega
        cases B with
        | true =>
          have hd : d = false := by have := HBB.out; cases d with | true => simp at this | false => rfl
          have hn1 := HP.out.1
          go_upto_region 9 with (at_builtin; refine wpList_append_at _ rfl _ _ _ rfl 28 i0 _ 6 48 Try.underlying33 HL1.out HL2.out HL3.out HL4.out rfl (by omega) _ np (cs p.1) blk rfl (HO.out.kept (fun g hg => Below.heap_alloc _ _ _ (HO.out.lt g hg))) _ 1 1 [.int .i64 e.k.T, .int .i64 e.k.O, .int .i64 e.k.S, .int .i64 e.p, .int .i64 e.q, .int .i64 e.d] rfl rfl (rd_last wc _ [.int .i64 e.k.T, .int .i64 e.k.O, .int .i64 e.k.S, .int .i64 e.p, .int .i64 e.q, .int .i64 e.d]) (Ev.c_one e) (by simp only [maxLen]; omega) (by omega) ?_; intro A2 c2 w2 blk2 hown hchg hat)
          have hNN : Nw w1 w2 ∧ ∀ g, blk2 = some g → w1.heap.size ≤ g := grow_new NC.out HP.out.2.2.2.2 hchg hat
          have hoE := hown.ev
          have HO2 := Lib.hid hoE
          have HNN := Lib.hid hNN
          clear hNN hoE hown hchg hat x0 x1 x2 x3 x4 x5 e0 e1 e2 e3 e4 e5
          obtain ⟨x0, x1, x2, x3, x4, x5, e0, e1, e2, e3, e4, e5⟩ := HC.out w2 HNN.out.1
          clear e0 e1 e2 e3 e4 e5
          go_wp2_with (at_builtin; refine wpList_append_at _ rfl _ _ _ rfl 28 i0 _ 6 48 Try.underlying33 HL1.out HL2.out HL3.out HL4.out rfl (by omega) _ (np + 1) (cs (p.1 ++ [e])) blk2 rfl (HO2.out.kept (fun g hg => Below.heap_alloc _ _ _ (HO2.out.lt g hg))) _ 1 1 [.int .i64 x.k.T, .int .i64 x.k.O, .int .i64 x.k.S, .int .i64 x.p, .int .i64 x.q, .int .i64 x.d] rfl rfl (rd_last w2 _ [.int .i64 x.k.T, .int .i64 x.k.O, .int .i64 x.k.S, .int .i64 x.p, .int .i64 x.q, .int .i64 x.d]) (Ev.c_one x) (by simp only [maxLen]; omega) (by omega) ?_; intro A3 c3 w3 blk3 hown hchg hat)
          have hNN : Nw w1 w3 ∧ ∀ g, blk3 = some g → w1.heap.size ≤ g := grow_new HNN.out.1 HNN.out.2 hchg hat
          have hoE := hown.ev
          have hps : putP e l (k + 1) = (p.1 ++ [e] ++ [x], true) := by rw [HPS.out]; unfold putS; rw [HP.out.2.1, HBB.out]; simp
          have HZ : Hid ((putP e l (k + 1)).1.length = np + 1 + 1 ∧ (putP e l (k + 1)).2 = true ∧ Own w3 28 6 (.slice A3 (np + 1 + 1) c3) (np + 1 + 1) (cs (putP e l (k + 1)).1) blk3 ∧ Nw w1 w3 ∧ ∀ g, blk3 = some g → w1.heap.size ≤ g) := Lib.hid ⟨by rw [hps]; simp [hn1], by rw [hps], by rw [hps]; exact hoE, hNN⟩
          clear hNN hoE hown hchg hat hps hn1 x0 x1 x2 x3 x4 x5
          subst hd
          go_roundw
          case rel => exact ⟨k + 1, np + 1 + 1, true, A3, c3, blk3, hlt, by omega, rfl, rfl, by go_num, HZ⟩
          case measure => simp [intOf]; omega
        | false =>
          have hn1 := HP.out.1
          go_wp2_with (at_builtin; refine wpList_append_at _ rfl _ _ _ rfl 28 i0 _ 6 48 Try.underlying33 HL1.out HL2.out HL3.out HL4.out rfl (by omega) _ np (cs p.1) blk rfl (HO.out.kept (fun g hg => Below.heap_alloc _ _ _ (HO.out.lt g hg))) _ 1 1 [.int .i64 x.k.T, .int .i64 x.k.O, .int .i64 x.k.S, .int .i64 x.p, .int .i64 x.q, .int .i64 x.d] rfl rfl (rd_last wc _ [.int .i64 x.k.T, .int .i64 x.k.O, .int .i64 x.k.S, .int .i64 x.p, .int .i64 x.q, .int .i64 x.d]) (Ev.c_one x) (by simp only [maxLen]; omega) (by omega) ?_; intro A3 c3 w3 blk3 hown hchg hat)
          have hNN : Nw w1 w3 ∧ ∀ g, blk3 = some g → w1.heap.size ≤ g := grow_new NC.out HP.out.2.2.2.2 hchg hat
          have hoE := hown.ev
          have hps : putP e l (k + 1) = (p.1 ++ [x], d) := by rw [HPS.out]; unfold putS; rw [HP.out.2.1, HBB.out]; simp
          have HZ : Hid ((putP e l (k + 1)).1.length = np + 1 ∧ (putP e l (k + 1)).2 = d ∧ Own w3 28 6 (.slice A3 (np + 1) c3) (np + 1) (cs (putP e l (k + 1)).1) blk3 ∧ Nw w1 w3 ∧ ∀ g, blk3 = some g → w1.heap.size ≤ g) := Lib.hid ⟨by rw [hps]; simp [hn1], by rw [hps], by rw [hps]; exact hoE, hNN⟩
          clear hNN hoE hown hchg hat hps hn1 x0 x1 x2 x3 x4 x5 e0 e1 e2 e3 e4 e5
          go_roundw
          case rel => exact ⟨k + 1, np + 1, d, A3, c3, blk3, hlt, by omega, rfl, rfl, by go_num, HZ⟩
          case measure => simp [intOf]; omega
    · have g1 : ¬ (k : Int) < (n : Int) := by omega
      obtain rfl : k = n := by omega
      have hfin := HFIN.out
      have hlen := insO_length e l
      rw [HN.out] at hlen
      unfold putE at hfin
      rw [HI.out.2.1] at hfin
      cases d with
      | true =>
        have hf : (putP e l k).1 = insO e l := by simpa using hfin
        have hnp' : np = k + 1 := by rw [← HI.out.1, hf, hlen]
        subst hnp'
        have ho := HI.out.2.2.1
        rw [hf] at ho
        have HO := Lib.hid ho
        clear ho hf hfin hlen
        go_wp2_with fail
        go_ret
        exact ⟨_, _, rfl, blk, HO.out, N1.out.step HI.out.2.2.2.1, fun g q => Nat.le_trans N1.out.size (HI.out.2.2.2.2 g q)⟩
      | false =>
        have hf : (putP e l k).1 ++ [e] = insO e l := by simpa using hfin
        have hnp' : np = k := by have := congrArg List.length hf; rw [List.length_append, HI.out.1, hlen] at this; simpa using this
        subst hnp'
        have HF := Lib.hid hf
        have hb := HB.out.below HI.out.2.2.2.1 HB.out.lt
        have e0 : wr.cell? ⟨XB, 0, none⟩ = some (.int .i64 e.k.T) := hb.cell 0
        have e1 : wr.cell? ⟨XB, 1, none⟩ = some (.int .i64 e.k.O) := hb.cell 1
        have e2 : wr.cell? ⟨XB, 2, none⟩ = some (.int .i64 e.k.S) := hb.cell 2
        have e3 : wr.cell? ⟨XB, 3, none⟩ = some (.int .i64 e.p) := hb.cell 3
        have e4 : wr.cell? ⟨XB, 4, none⟩ = some (.int .i64 e.q) := hb.cell 4
        have e5 : wr.cell? ⟨XB, 5, none⟩ = some (.int .i64 e.d) := hb.cell 5
        clear hf hfin hlen hb
        go_wp2_with (at_builtin; refine wpList_append_at _ rfl _ _ _ rfl 28 i0 _ 6 48 Try.underlying33 HL1.out HL2.out HL3.out HL4.out rfl (by omega) _ np (cs (putP e l np).1) blk rfl (HI.out.2.2.1.kept (fun g hg => Below.heap_alloc _ _ _ (HI.out.2.2.1.lt g hg))) _ 1 1 [.int .i64 e.k.T, .int .i64 e.k.O, .int .i64 e.k.S, .int .i64 e.p, .int .i64 e.q, .int .i64 e.d] rfl rfl (rd_last wr _ [.int .i64 e.k.T, .int .i64 e.k.O, .int .i64 e.k.S, .int .i64 e.p, .int .i64 e.q, .int .i64 e.d]) (Ev.c_one e) (by simp only [maxLen]; omega) (by omega) ?_; intro A3 c3 w3 blk3 hown hchg hat)
        go_ret
        obtain ⟨q1, q2⟩ := grow_new HI.out.2.2.2.1 HI.out.2.2.2.2 hchg hat
        have ho := hown.ev
        rw [HF.out] at ho
        exact ⟨A3, c3, rfl, blk3, ho, N1.out.step q1, fun g q => Nat.le_trans N1.out.size (q2 g q)⟩
theorem refSorted_any (A : Option Addr) (c : Nat) (l : List Ev) (w : World) (hA : Rd w A (cs l)) (hl : l.length ≤ 200) :
    Calls Try.prog 17 #[.slice A l.length c] w fun r w' => ∃ A' c', r = .returned (.slice A' l.length c') ∧ Rd w' A' (cs (sortO l)) ∧ Nw w w' := by
  have HA := Lib.hid hA
  have KP := Lib.hid (fun (A1 : Option Addr) (c1 : Nat) (l1 : List Ev) (x : Ev) (W : World) h1 h2 => refPut_any A1 c1 l1 x W h1 h2)
  obtain ⟨n, hn⟩ : ∃ n, l.length = n := ⟨_, rfl⟩
  have HN := Lib.hid hn
  rw [hn] at hl ⊢
  clear hA hn
  go_enter Try.func17, Try.ntmps17
  go_wp2_with fail
  go_loopw [3, 4] (fun x y wr => ∃ (k : Nat) (A1 : Option Addr) (c1 : Nat), k ≤ n ∧ x = .slice A1 k c1 ∧ y = .int .i64 k ∧ Hid (Rd wr A1 (cs (sortO (l.take k))) ∧ Nw w wr)) (fun _ y _ => n - (intOf y).toNat)
  case atStart => exact ⟨0, none, 0, Nat.zero_le _, rfl, rfl, Lib.hid ⟨.inl rfl, Nw.refl w⟩⟩
  case round =>
    obtain ⟨k, A1, c1, hk, rfl, rfl, HI⟩ := hrel
    by_cases hlt : k < n
    · have g1 : (k : Int) < (n : Int) := by omega
      have hkz : k < l.length := by rw [HN.out]; exact hlt
      obtain ⟨b, o, el, c0, c1', c2, c3, c4, c5⟩ := ev_at HA.out hkz
      have hsn : sortO (l.take (k + 1)) = insO l[k] (sortO (l.take k)) := by rw [List.take_add_one, List.getElem?_eq_getElem hkz]; exact sortO_snoc _ _
      have hsl : (sortO (l.take k)).length = k := by rw [(sortO_is _ (l.take k) rfl).2.2, List.length_take]; omega
      obtain ⟨x, hx⟩ : ∃ x, l[k] = x := ⟨_, rfl⟩
      rw [hx] at c0 c1' c2 c3 c4 c5 hsn
      have kp := KP.out A1 c1 (sortO (l.take k)) x wr HI.out.1 (by omega)
      rw [hsl] at kp
      have K := Lib.hid kp
      have HSN := Lib.hid hsn
      have d0 := HI.out.2.cell c0
      have d1 := HI.out.2.cell c1'
      have d2 := HI.out.2.cell c2
      have d3 := HI.out.2.cell c3
      have d4 := HI.out.2.cell c4
      have d5 := HI.out.2.cell c5
      have HEL := Lib.hid el
      clear c0 c1' c2 c3 c4 c5 kp hsn hsl hx
      subst el
      go_wp2_with fail
      refine K.out.mono ?_
      rintro r w9 ⟨A', c', blk, rfl, ho, hN, _⟩
      have hrd := ho.rdAt
      have HZ : Hid (Rd w9 A' (cs (sortO (l.take (k + 1)))) ∧ Nw w w9) := Lib.hid ⟨by rw [HSN.out]; exact hrd, HI.out.2.step hN⟩
      clear ho hN hrd d0 d1 d2 d3 d4 d5
      go_wp2_with fail
      go_roundw
      case rel => exact ⟨k + 1, A', c', hlt, rfl, by go_num, HZ⟩
      case measure => simp [intOf]; omega
    · have g1 : ¬ (k : Int) < (n : Int) := by omega
      obtain rfl : k = n := by omega
      go_wp2_with fail
      go_ret
      refine ⟨A1, ⟨c1, rfl⟩, ?_, HI.out.2⟩
      have := HI.out.1
      rwa [← HN.out, List.take_length] at this
theorem refSame_yes (A B : Option Addr) (c d : Nat) (l : List Ev) (w : World) (hA : Rd w A (cs l)) (hB : Rd w B (cs l)) (hl : l.length ≤ 200) :
    Calls Try.prog 16 #[.slice A l.length c, .slice B l.length d] w fun r w' => r = .returned (.bool true) ∧ Nw w w' := by
  have HA := Lib.hid hA
  have HB := Lib.hid hB
  obtain ⟨n, hn⟩ : ∃ n, l.length = n := ⟨_, rfl⟩
  have HN := Lib.hid hn
  rw [hn] at hl ⊢
  clear hA hB hn
  go_enter Try.func16, Try.ntmps16
  go_wp2_with fail
  go_loopw [5] (fun y wr => ∃ k : Nat, k ≤ n ∧ y = .int .i64 k ∧ Hid (Nw w wr)) (fun y _ => n - (intOf y).toNat)
  case atStart => exact ⟨0, Nat.zero_le _, rfl, Lib.hid (Nw.refl w)⟩
  case round =>
    obtain ⟨k, hk, rfl, HI⟩ := hrel
    by_cases hlt : k < n
    · have g1 : (k : Int) < (n : Int) := by omega
      have hkz : k < l.length := by rw [HN.out]; exact hlt
      obtain ⟨b, o, el, c0, c1, c2, c3, c4, c5⟩ := ev_at HA.out hkz
      obtain ⟨b2, o2, el2, d0, d1, d2, d3, d4, d5⟩ := ev_at HB.out hkz
      obtain ⟨x, hx⟩ : ∃ x, l[k] = x := ⟨_, rfl⟩
      rw [hx] at c0 c1 c2 c3 c4 c5 d0 d1 d2 d3 d4 d5
      have HSS := Lib.hid (fun W (hW : Nw wr W) => (⟨hW, (HI.out.step hW).cell c0, (HI.out.step hW).cell c1, (HI.out.step hW).cell c2, (HI.out.step hW).cell c3, (HI.out.step hW).cell c4, (HI.out.step hW).cell c5, (HI.out.step hW).cell d0, (HI.out.step hW).cell d1, (HI.out.step hW).cell d2, (HI.out.step hW).cell d3, (HI.out.step hW).cell d4, (HI.out.step hW).cell d5⟩ :
        Nw wr W ∧ W.cell? ⟨b, o + k * 6, none⟩ = some (.int .i64 x.k.T) ∧ W.cell? ⟨b, o + k * 6 + 1, none⟩ = some (.int .i64 x.k.O) ∧ W.cell? ⟨b, o + k * 6 + 2, none⟩ = some (.int .i64 x.k.S) ∧ W.cell? ⟨b, o + k * 6 + 3, none⟩ = some (.int .i64 x.p) ∧ W.cell? ⟨b, o + k * 6 + 4, none⟩ = some (.int .i64 x.q) ∧ W.cell? ⟨b, o + k * 6 + 5, none⟩ = some (.int .i64 x.d) ∧
        W.cell? ⟨b2, o2 + k * 6, none⟩ = some (.int .i64 x.k.T) ∧ W.cell? ⟨b2, o2 + k * 6 + 1, none⟩ = some (.int .i64 x.k.O) ∧ W.cell? ⟨b2, o2 + k * 6 + 2, none⟩ = some (.int .i64 x.k.S) ∧ W.cell? ⟨b2, o2 + k * 6 + 3, none⟩ = some (.int .i64 x.p) ∧ W.cell? ⟨b2, o2 + k * 6 + 4, none⟩ = some (.int .i64 x.q) ∧ W.cell? ⟨b2, o2 + k * 6 + 5, none⟩ = some (.int .i64 x.d)))
      obtain ⟨_, y0, y1, y2, y3, y4, y5, z0, z1, z2, z3, z4, z5⟩ := HSS.out wr (Nw.refl wr)
      have HEL := Lib.hid el
      have HEL2 := Lib.hid el2
      clear c0 c1 c2 c3 c4 c5 d0 d1 d2 d3 d4 d5 hx
      subst el el2
      go_upto_region 6 with (fail)
      go_quiet (fail)
      go_wp2_with fail
      go_roundw
      case rel => exact ⟨k + 1, hlt, by go_num, Lib.hid (HI.out.step (Below.many (Nw.refl wr) _))⟩
      case measure => simp [intOf]; omega
    · have g1 : ¬ (k : Int) < (n : Int) := by omega
      go_wp2_with fail
      go_ret
      exact ⟨rfl, HI.out⟩
end
end Go.Proofs.Ytefgpnalahijgaa
