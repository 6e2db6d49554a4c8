/- Outbox: Same, the document's. Helper of OutboxCopies. -/
import Derived.Test.YtmjikfhabfodkaaCopCopy
namespace Go.Proofs.Ytmjikfhabfodkaa
open Go.RowKit
set_option linter.unusedVariables false
set_option linter.unusedSimpArgs false
set_option maxHeartbeats 800000 in
theorem refLenQ (Hm : Nat → Prop) (R : Nat) (bs : List UInt8) (ends : List Nat) (sent M : Nat) (w : World) (h : RB w Hm R bs ends sent M) (hl : ends.length ≤ 4294967295) :
    Calls Try.prog 24 #[.pointer (some ⟨R, 0, none⟩)] w fun e w' => e = .returned (.int .i64 (lenE ends sent)) ∧ ∃ m, w' = w.drewN m := by
  obtain ⟨v1, v2, b1, b2, h1, h2, h3, h4, h5, h6⟩ := h
  obtain ⟨A, c, rfl, hr, _, _⟩ := h3.rd
  have c0 := h1.cell 1
  have c2 := h1.cell 2
  simp at c0 c2
  clear h1 h2 h3 h4 h5 h6
  go_enter Try.func24, Try.ntmps24
  go_wp2
  go_loopw [3, 4] (fun n i wr => ∃ k m : Nat, k ≤ ends.length ∧ i = .int .i64 k ∧ n = .int .i64 (lenE (ends.take k) sent) ∧ wr = w.drewN m) (fun _ i _ => ends.length - (intOf i).toNat)
  case atStart => exact ⟨0, 0, Nat.zero_le _, rfl, by simp [lenE], rfl⟩
  case round =>
    obtain ⟨k, m, hk, rfl, rfl, rfl⟩ := hrel
    by_cases hlt : k < ends.length
    · obtain ⟨b, o, rfl, _, hc⟩ := hr.get (k := k) (by simpa [icells] using hlt)
      have hcell := hc k (.int .i64 ends[k]) (by simp [icells, hlt])
      have e1 := lenE_take ends sent k hlt
      have e2 := lenE_le (ends.take k) sent
      rw [List.length_take] at e2
      have hlt' : (k : Int) < (ends.length : Int) := by omega
      generalize hq : ends[k] = q at *
      by_cases hs : sent < q
      · rw [if_pos hs] at e1
        have hs' : (sent : Int) < (q : Int) := by omega
        have hs'' : decide ((sent : Int) < (q : Int)) = true := decide_eq_true hs'
        have hs3 : decide (sent < q) = true := decide_eq_true hs
        have E1 := Lib.hid e1
        clear e1 hq hc
        go_wp2
        go_quiet (fail)
        go_wp2
        go_roundw
        case rel => exact ⟨k + 1, _, hlt, by go_num, by rw [E1.out]; go_num, rfl⟩
        case measure => simp [intOf]; omega
      · rw [if_neg hs] at e1
        have hs' : ¬ (sent : Int) < (q : Int) := by omega
        have hs'' : decide ((sent : Int) < (q : Int)) = false := decide_eq_false hs'
        have hs3 : decide (sent < q) = false := decide_eq_false hs
        have E1 := Lib.hid e1
        clear e1 hq hc
        go_wp2
        go_quiet (fail)
        go_wp2
        go_roundw
        case rel => exact ⟨k + 1, _, hlt, by go_num, by rw [E1.out]; go_num, rfl⟩
        case measure => simp [intOf]; omega
    · obtain rfl : k = ends.length := by omega
      rw [List.take_length]
      go_wp2
      go_ret
      exact ⟨rfl, m, rfl⟩
theorem rlen2 {w : World} {Hm : Nat → Prop} {R : Nat} {ls : List (List UInt8)} {bs : List UInt8} {ends : List Nat} {sent M : Nat} (h : RB w Hm R bs ends sent M) (g : Sim ls bs ends sent) (hl : ends.length ≤ 4294967295) (n : Nat) :
    Calls Try.prog 24 #[.pointer (some ⟨R, 0, none⟩)] (w.drewN n) fun e w' => e = .returned (.int .i64 ls.length) ∧ ∃ m, w' = (w.drewN n).drewN m := by
  have hr := refLenQ _ R bs ends sent M (w.drewN n) (h.kept fun _ _ _ _ _ _ _ => rfl) hl
  rw [g.len] at hr
  exact hr
theorem str_ne {a b : List UInt8} (h : a ≠ b) : (⟨a.toArray⟩ : ByteArray) ≠ ⟨b.toArray⟩ := fun e => h (by injection e with e; simpa using congrArg Array.toList e)
set_option maxHeartbeats 4000000 in
theorem rsame_any (H1 H2 : Nat → Prop) (R V : Nat) (ls : List (List UInt8)) (bs : List UInt8) (ends : List Nat) (ls' : List (List UInt8)) (bs' : List UInt8) (ends' : List Nat) (M sent sent' : Nat) (w : World)
    (h1 : RB w H1 R bs ends sent M) (h2 : RB w H2 V bs' ends' sent' M) (g1 : Sim ls bs ends sent) (g2 : Sim ls' bs' ends' sent') (hb : bs.length ≤ 4294967295) (hb' : bs'.length ≤ 4294967295) (he : ends.length ≤ 4294967295) (he' : ends'.length ≤ 4294967295) :
    Calls Try.prog 20 #[.pointer (some ⟨R, 0, none⟩), .pointer (some ⟨V, 0, none⟩)] w fun e w' => e = .returned (.bool (decide (sent = sent' ∧ ls = ls'))) ∧ SI w w' := by
  have kl := fun n => rlen2 h1 g1 he n
  have kl' := fun n => rlen2 h2 g2 he' n
  have KL := Lib.hid kl
  have KL' := Lib.hid kl'
  have hR := h1
  have hV := h2
  obtain ⟨v1, v2, x1, x2, r1, r2, r3, _⟩ := h1
  obtain ⟨u1, u2, y1, y2, t1, t2, t3, _⟩ := h2
  obtain ⟨A, c, rfl, hA, hAc, hAm⟩ := r2.rd
  obtain ⟨E, d, rfl, hE, hEc, hEm⟩ := r3.rd
  obtain ⟨A', c', rfl, hA', hAc', hAm'⟩ := t2.rd
  obtain ⟨E', d', rfl, hE', hEc', hEm'⟩ := t3.rd
  have a0 : w.cell? ⟨R, 0, none⟩ = some (.slice A bs.length c) := r1.cell 0
  have a1 : w.cell? ⟨R, 1, none⟩ = some (.slice E ends.length d) := r1.cell 1
  have a2 : w.cell? ⟨R, 2, none⟩ = some (.int .i64 sent) := r1.cell 2
  have a3 : w.cell? ⟨R, 3, none⟩ = some (.int .i64 M) := r1.cell 3
  have b0 : w.cell? ⟨V, 0, none⟩ = some (.slice A' bs'.length c') := t1.cell 0
  have b1 : w.cell? ⟨V, 1, none⟩ = some (.slice E' ends'.length d') := t1.cell 1
  have b2 : w.cell? ⟨V, 2, none⟩ = some (.int .i64 sent') := t1.cell 2
  have b3 : w.cell? ⟨V, 3, none⟩ = some (.int .i64 M) := t1.cell 3
  have hs := g1.2.1
  have hs' := g2.2.1
  have hf := g1.2.2.1
  have hf' := g2.2.2.1
  have q1 : ((M : Int) != (M : Int)) = false := by simp
  have i0 : SI w w.drew := (SI.refl w).drew
  clear kl kl' r1 r2 r3 t1 t2 t3 hR hV
  by_cases es : sent = sent'
  · subst es
    have hd : decide (sent = sent ∧ ls = ls') = decide (ls = ls') := by simp
    rw [hd]
    have q2 : ((sent : Int) != (sent : Int)) = false := by simp
    by_cases en : ls.length = ls'.length
    · have hcut : BytesAt w (if c = sent then A else Option.map (fun x => x.add sent) A) (bs.drop sent) := BytesAt.cut hA c hs hAc
      have hcut' : BytesAt w (if c' = sent then A' else Option.map (fun x => x.add sent) A') (bs'.drop sent) := BytesAt.cut hA' c' hs' hAc'
      have hX : (bs.drop sent).length = bs.length - sent := List.length_drop
      have hX' : (bs'.drop sent).length = bs'.length - sent := List.length_drop
      have z1 : (sent : Int) ≤ (bs.length : Int) := by omega
      have z2 : (sent : Int) ≤ (bs'.length : Int) := by omega
      have z3 : (bs.length : Int) ≤ (c : Int) := by omega
      have z4 : (bs'.length : Int) ≤ (c' : Int) := by omega
      unfold maxLen at hAm hAm'
      by_cases ef : bs.drop sent = bs'.drop sent
      · have hfl : ls.flatten = ls'.flatten := by rw [← hf, ← hf', ef]
        have k1 : ∀ n, (convert 27 9 (.slice (if c = sent then A else Option.map (fun x => x.add sent) A) (bs.length - sent) (c - sent))).run Try.prog (w.drewN n) = .ok (.string ⟨(bs.drop sent).toArray⟩) (w.drewN n) := fun n => by
          rw [← hX]; exact BytesAt.str (w := w.drewN n) hcut 27 5 9 _ Try.underlying27 Try.underlying5 Try.underlying9
        have k2 : ∀ n, (convert 27 9 (.slice (if c' = sent then A' else Option.map (fun x => x.add sent) A') (bs'.length - sent) (c' - sent))).run Try.prog (w.drewN n) = .ok (.string ⟨(bs.drop sent).toArray⟩) (w.drewN n) := fun n => by
          rw [← hX', ef]; exact BytesAt.str (w := w.drewN n) hcut' 27 5 9 _ Try.underlying27 Try.underlying5 Try.underlying9
        generalize (⟨(bs.drop sent).toArray⟩ : ByteArray) = S1 at *
        rw [← en] at KL'
        have HEN := Lib.hid en
        have HFL := Lib.hid hfl
        have hat := fun i h1 h2 => g1.ends_at (i := i) h1 h2
        have hat' := fun i h1 h2 => g2.ends_at (i := i) h1 h2
        have HAT := Lib.hid hat
        have HAT' := Lib.hid hat'
        have HE := Lib.hid hE
        have HE' := Lib.hid hE'
        clear g1 g2 hf hf' hA hE hA' hE' hd en ef hcut hcut' hX hX' hs hs' hfl hat hat'
        obtain ⟨n1, hn1⟩ : ∃ n1, ls.length = n1 := ⟨_, rfl⟩
        rw [hn1] at KL KL'
        have HN1 := Lib.hid hn1
        clear hn1
        go_enter Try.func20, Try.ntmps20
        go_wp2
        rcases Classical.em (c = sent) with e1 | e1 <;> rcases Classical.em (c' = sent) with e2 | e2
        all_goals
          simp only [e1, e2, if_true, if_false, Nat.sub_self] at k1 k2
          go_quiet ((first | (go_at_call 24; (with_reducible exact Calls.quiet_of (KL.out _))) | (go_at_call 24; (with_reducible exact Calls.quiet_of (KL'.out _)))))
        all_goals
          clear k1 k2 e1 e2
          go_wp2_with fail
          go_loopw [5] (fun i wx => ∃ k m : Nat, k ≤ n1 ∧ i = .int .i64 ((k : Int) + 1) ∧ Hid (∀ j, 1 ≤ j → j ≤ k → ends[ends.length - j]? = ends'[ends'.length - j]?) ∧ wx = w.drewN m) (fun i _ => n1 + 1 - (intOf i).toNat)
          case atStart => exact ⟨0, _, Nat.zero_le _, rfl, Lib.hid (fun j h1 h2 => by omega), rfl⟩
          case round =>
            obtain ⟨k, m, hk, rfl, HJ, rfl⟩ := hrel
            have hn1b : n1 ≤ ends.length ∨ n1 = 0 := by
              by_cases h0 : n1 = 0
              · exact .inr h0
              · have := (HAT.out n1 (by omega) (by rw [HN1.out]; exact Nat.le_refl _)).1
                rw [HN1.out] at this
                exact .inl this
            have hn2b : n1 ≤ ends'.length ∨ n1 = 0 := by
              by_cases h0 : n1 = 0
              · exact .inr h0
              · have := (HAT'.out n1 (by omega) (by rw [← HEN.out, HN1.out]; exact Nat.le_refl _)).1
                rw [← HEN.out, HN1.out] at this
                exact .inl this
            by_cases hlt : k < n1
            · have gk : (k : Int) + 1 ≤ (n1 : Int) := by omega
              obtain ⟨q, hq⟩ : ∃ q, q + (k + 1) = ends.length := ⟨ends.length - (k + 1), by omega⟩
              obtain ⟨q', hq'⟩ : ∃ q', q' + (k + 1) = ends'.length := ⟨ends'.length - (k + 1), by omega⟩
              have hqe : ends.length - (k + 1) = q := by omega
              have hqe' : ends'.length - (k + 1) = q' := by omega
              obtain ⟨x, hx⟩ : ∃ x, ends[q]? = some x := ⟨_, List.getElem?_eq_getElem (by omega)⟩
              obtain ⟨y, hy⟩ : ∃ y, ends'[q']? = some y := ⟨_, List.getElem?_eq_getElem (by omega)⟩
              obtain ⟨bE, oE, rfl, _, hc⟩ := HE.out.get (k := q) (by simp [icells]; omega)
              obtain ⟨bE', oE', rfl, _, hc'⟩ := HE'.out.get (k := q') (by simp [icells]; omega)
              have cx : w.cell? ⟨bE, oE + q, none⟩ = some (.int .i64 x) := hc q _ (by simp [icells, hx])
              have cy : w.cell? ⟨bE', oE' + q', none⟩ = some (.int .i64 y) := hc' q' _ (by simp [icells, hy])
              have HX := Lib.hid hx
              have HY := Lib.hid hy
              have HQ := Lib.hid hqe
              have HQ' := Lib.hid hqe'
              have le1 : (ends.length : Int) = (q : Int) + ((k : Int) + 1) := by omega
              have le2 : (ends'.length : Int) = (q' : Int) + ((k : Int) + 1) := by omega
              have s1 : (ends.length : Int) - ((k : Int) + 1) = (q : Int) := by omega
              have s2 : (ends'.length : Int) - ((k : Int) + 1) = (q' : Int) := by omega
              have s3 : (q : Int) < (ends.length : Int) := by omega
              have s4 : (q' : Int) < (ends'.length : Int) := by omega
              have s5 : q < ends.length := by omega
              have s6 : q' < ends'.length := by omega
              have w1 : IntKind.i64.wrap ((ends.length : Int) - ((k : Int) + 1)) = (q : Int) := by rw [s1]; exact IntWalk.i64_in _ (by constructor <;> omega)
              have w2 : IntKind.i64.wrap ((ends'.length : Int) - ((k : Int) + 1)) = (q' : Int) := by rw [s2]; exact IntWalk.i64_in _ (by constructor <;> omega)
              clear hx hy hc hc' hqe hqe' hq hq' le1 le2
              have st : ∀ (j : Nat), 1 ≤ j → j ≤ k + 1 → x = y → ends[ends.length - j]? = ends'[ends'.length - j]? := fun j h1 h2 hxy => by
                by_cases e : j = k + 1
                · subst e; rw [HQ.out, HQ'.out, HX.out, HY.out, hxy]
                · exact HJ.out j h1 (by omega)
              have ST := Lib.hid st
              clear st
              by_cases hxy : x = y
              · have HXY := Lib.hid hxy
                subst hxy
                go_wp2_with fail
                refine (KL.out m).mono ?_
                rintro e w' ⟨rfl, m', rfl⟩
                go_wp2_with fail
                go_quiet (fail)
                go_wp2_with fail
                go_roundw
                case rel => exact ⟨k + 1, _, hlt, by go_num, Lib.hid (fun j h1 h2 => ST.out j h1 h2 (by first | trivial | rfl)), rfl⟩
                case measure => simp [intOf]; omega
              · have HD : Hid (decide (ls = ls') = false) := Lib.hid (decide_eq_false (fun e => hxy (by
                  subst e
                  have a1 := (HAT.out (k + 1) (by omega) (by rw [HN1.out]; exact hlt)).2
                  have a2 := (HAT'.out (k + 1) (by omega) (by rw [HN1.out]; exact hlt)).2
                  rw [HQ.out, HX.out] at a1
                  rw [HQ'.out, HY.out] at a2
                  rw [← a2] at a1
                  exact Option.some.inj a1)))
                have t1 : ((x : Int) != (y : Int)) = true := bne_iff_ne.2 (by omega)
                have t2 : (x != y) = true := bne_iff_ne.2 hxy
                have t3 : decide ((x : Int) = (y : Int)) = false := decide_eq_false (by omega)
                have t4 : decide (x = y) = false := decide_eq_false hxy
                have t5 : (x == y) = false := beq_eq_false_iff_ne.2 hxy
                have t6 : ((x : Int) == (y : Int)) = false := beq_eq_false_iff_ne.2 (by omega)
                clear hxy
                go_wp2_with fail
                refine (KL.out m).mono ?_
                rintro e w' ⟨rfl, m', rfl⟩
                go_wp2_with fail
                go_quiet (fail)
                go_wp2_with fail
                go_ret
                exact ⟨ret_bool (by rw [HD.out]), rfl, rfl, rfl, rfl, Nat.le_refl _, fun _ _ => rfl⟩
            · obtain rfl : k = n1 := by omega
              have HD : Hid (decide (ls = ls') = true) := Lib.hid (decide_eq_true (cum_inj ls ls' sent (cum_all HEN.out fun i h1 h2 => by
                have a1 := (HAT.out i h1 h2).2
                have a2 := (HAT'.out i h1 (by rw [← HEN.out]; exact h2)).2
                rw [← a1, HEN.out, ← a2]
                exact HJ.out i h1 (by rw [← HN1.out]; exact h2)) HFL.out))
              have gk : ¬ (k : Int) + 1 ≤ (k : Int) := by omega
              go_wp2_with fail
              refine (KL.out m).mono ?_
              rintro e w' ⟨rfl, m', rfl⟩
              go_wp2_with fail
              go_ret
              exact ⟨ret_bool (by rw [HD.out]), rfl, rfl, rfl, rfl, Nat.le_refl _, fun _ _ => rfl⟩
      · have HD : Hid (decide (ls = ls') = false) := Lib.hid (decide_eq_false (fun e => ef (by rw [hf, hf', e])))
        rw [HD.out]
        have q5 : ((⟨(bs.drop sent).toArray⟩ : ByteArray).toList == (⟨(bs'.drop sent).toArray⟩ : ByteArray).toList) = false := by
          rw [ByteArray.toList_eq, ByteArray.toList_eq]; exact beq_eq_false_iff_ne.2 (by simpa using ef)
        have k1 : ∀ n, (convert 27 9 (.slice (if c = sent then A else Option.map (fun x => x.add sent) A) (bs.length - sent) (c - sent))).run Try.prog (w.drewN n) = .ok (.string ⟨(bs.drop sent).toArray⟩) (w.drewN n) := fun n => by
          rw [← hX]; exact BytesAt.str (w := w.drewN n) hcut 27 5 9 _ Try.underlying27 Try.underlying5 Try.underlying9
        have k2 : ∀ n, (convert 27 9 (.slice (if c' = sent then A' else Option.map (fun x => x.add sent) A') (bs'.length - sent) (c' - sent))).run Try.prog (w.drewN n) = .ok (.string ⟨(bs'.drop sent).toArray⟩) (w.drewN n) := fun n => by
          rw [← hX']; exact BytesAt.str (w := w.drewN n) hcut' 27 5 9 _ Try.underlying27 Try.underlying5 Try.underlying9
        generalize (⟨(bs.drop sent).toArray⟩ : ByteArray) = S1 at *
        generalize (⟨(bs'.drop sent).toArray⟩ : ByteArray) = S2 at *
        rw [← en] at KL'
        clear g1 g2 hf hf' hA hE hA' hE' hd HD en ef hcut hcut' hX hX' hs hs'
        generalize ls.length = n1 at *
        go_enter Try.func20, Try.ntmps20
        go_wp2
        rcases Classical.em (c = sent) with e1 | e1 <;> rcases Classical.em (c' = sent) with e2 | e2
        all_goals
          simp only [e1, e2, if_true, if_false, Nat.sub_self] at k1 k2
          go_quiet ((first | (go_at_call 24; (with_reducible exact Calls.quiet_of (KL.out _))) | (go_at_call 24; (with_reducible exact Calls.quiet_of (KL'.out _)))))
        all_goals go_wp2
        all_goals go_ret
        all_goals exact ⟨rfl, rfl, rfl, rfl, rfl, Nat.le_refl _, fun _ _ => rfl⟩
    · have HD : Hid (decide (ls = ls') = false) := Lib.hid (decide_eq_false (fun e => en (by rw [e])))
      have q3 : ((ls.length : Int) != (ls'.length : Int)) = true := bne_iff_ne.2 (by omega)
      have q4 : (ls.length != ls'.length) = true := bne_iff_ne.2 en
      have q5 : decide ((ls.length : Int) = (ls'.length : Int)) = false := decide_eq_false (by omega)
      have q6 : decide (ls.length = ls'.length) = false := decide_eq_false en
      rw [HD.out]
      clear g1 g2 hf hf' hA hE hA' hE' hd HD en
      generalize ls.length = n1 at *
      generalize ls'.length = n2 at *
      go_enter Try.func20, Try.ntmps20
      go_wp2
      go_quiet ((first | (go_at_call 24; (with_reducible exact Calls.quiet_of (KL.out _))) | (go_at_call 24; (with_reducible exact Calls.quiet_of (KL'.out _)))))
      all_goals go_wp2
      all_goals go_ret
      all_goals exact ⟨rfl, rfl, rfl, rfl, rfl, Nat.le_refl _, fun _ _ => rfl⟩
  · have hd : decide (sent = sent' ∧ ls = ls') = false := by simp [es]
    rw [hd]
    have r2 : ((sent : Int) != (sent' : Int)) = true := bne_iff_ne.2 (by omega)
    have r3 : (sent != sent') = true := bne_iff_ne.2 es
    have r4 : decide ((sent : Int) = (sent' : Int)) = false := decide_eq_false (by omega)
    have r5 : decide (sent = sent') = false := decide_eq_false es
    clear hf hf' hA hE hA' hE' hd es g1 g2 hs hs'
    go_enter Try.func20, Try.ntmps20
    go_wp2
    go_quiet (fail)
    all_goals go_wp2
    all_goals go_ret
    all_goals exact ⟨rfl, rfl, rfl, rfl, rfl, Nat.le_refl _, fun _ _ => rfl⟩
end Go.Proofs.Ytmjikfhabfodkaa
