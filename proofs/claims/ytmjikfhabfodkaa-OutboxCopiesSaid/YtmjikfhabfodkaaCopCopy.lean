/- Outbox: Copy, ours and the document's. Helper of OutboxCopies. -/
import Derived.Test.YtmjikfhabfodkaaCopPlain
import Derived.Test.YtmjikfhabfodkaaCopEq
namespace Go.Proofs.Ytmjikfhabfodkaa
open Go.RowKit
set_option linter.unusedVariables false
set_option linter.unusedSimpArgs false
/-- What both documents' outboxes share: arrays that nobody writes. -/
def Sh (w : World) (Hm : Nat → Prop) (k : Nat) : Prop := Hm k ∧ ∃ cs fr t, (t = 5 ∨ t = 3) ∧ w.heap[k]? = some (.cells cs t fr)
set_option maxHeartbeats 800000 in
theorem refCopy_any (Hm : Nat → Prop) (R : Nat) (bs : List UInt8) (ends : List Nat) (sent M : Nat) (w : World) (h : RB w Hm R bs ends sent M) :
    Calls Try.prog 18 #[.pointer (some ⟨R, 0, none⟩)] w fun e w' => e = .returned (.pointer (some ⟨w.heap.size, 0, none⟩)) ∧ RB w' (fun k => k = w.heap.size ∨ Sh w Hm k) w.heap.size bs ends sent M ∧ Below w.heap.size w w' := by
  obtain ⟨v1, v2, b1, b2, h1, h2, h3, h4, h5, h6⟩ := h
  have hfin : ∀ W : World, W.heap = w.heap → Below w.heap.size w W → RB (W.alloc (.cells #[v1, v2, .int .i64 sent, .int .i64 M] 51)) (fun k => k = w.heap.size ∨ Sh w Hm k) w.heap.size bs ends sent M := by
    intro W hW hB
    have k : ∀ g, g < w.heap.size → (W.alloc (.cells #[v1, v2, .int .i64 sent, .int .i64 M] 51)).heap[g]? = w.heap[g]? := fun g hg => by
      rw [Below.heap_alloc _ _ _ (by rw [hW]; exact hg), hW]
    refine ⟨v1, v2, b1, b2, Blk.last W 51 _ (by rw [hW]), h2.kept fun g hg => k g (h2.lt g hg), h3.kept fun g hg => k g (h3.lt g hg), .inl rfl, fun g hg => .inr ⟨h5 g hg, ?_⟩, fun g hg => .inr ⟨h6 g hg, ?_⟩⟩
    · obtain ⟨cur, hc⟩ := h2.ty g hg
      exact ⟨cur, (0, 0), 5, .inl rfl, hc⟩
    · obtain ⟨cur, hc⟩ := h3.ty g hg
      exact ⟨cur, (0, 0), 3, .inr rfl, hc⟩
  have HF := Lib.hid hfin
  have c0 := h1.cell 0
  have c1 := h1.cell 1
  have c2 := h1.cell 2
  have c3 := h1.cell 3
  simp at c0 c1 c2 c3
  obtain ⟨A1, q1, rfl, _⟩ := h2.rd
  obtain ⟨A2, q2, rfl, _⟩ := h3.rd
  clear h1 h2 h3 h4 h5 h6 hfin
  go_enter Try.func18, Try.ntmps18
  go_wp2
  go_region
  all_goals go_wp2
  all_goals go_ret
  all_goals exact ⟨rfl, HF.out w.drew rfl ((Below.refl _ _).drew), ((Below.refl _ _).drew).alloc (by simp) _⟩
theorem OBh.txts {w : World} {Hm : Nat → Prop} {B : Nat} {ls : List (List UInt8)} {most : Nat} {sent : Int} (h : OBh w Hm B ls most sent) (hs : lens ls ≤ 4294967295) :
    ∃ A c, w.cell? ⟨B, 0, none⟩ = some (.slice A ls.length c) ∧ w.cell? ⟨B, 1, none⟩ = some (.int .i64 most) ∧ w.cell? ⟨B, 2, none⟩ = some (.int .i64 sent) ∧ TxtsAt w A ls := by
  obtain ⟨blk, T, ⟨vl, vs, hb, ho, ht⟩, _⟩ := h
  obtain ⟨A, c, rfl, hr, _⟩ := ho.rd
  have hvl := ho.1
  refine ⟨A, c, (hb.cell 0).trans rfl, (hb.cell 1).trans rfl, (hb.cell 2).trans rfl, ?_⟩
  rcases hr with rfl | ⟨b, o, rfl, hc⟩
  · left
    exact List.eq_nil_of_length_eq_zero (by simpa using hvl.symm)
  · refine .inr ⟨b, o, rfl, fun i hi => ?_⟩
    obtain ⟨u, hu, hx⟩ := ht i hi
    obtain ⟨g, off, c', rfl, _, _, hby⟩ := hx.bytes
    refine ⟨_, c', hc i _ hu, hby, ?_⟩
    have e1 := lens_take ls i hi
    have e2 := lens_take_le ls (i + 1)
    omega
/-- A copy in the making: k texts are copied. -/
def CopySt (w : World) (P : Nat) (ls : List (List UInt8)) (k M : Nat) (sent : Int) : Prop :=
  ∃ blk T, Box w P blk T (ls.take k) M sent ∧ (∀ g, blk = some g → P ≤ g) ∧ (∀ q, T q → P ≤ q)
set_option maxHeartbeats 1600000 in
theorem copy_any (Hm : Nat → Prop) (B : Nat) (ls : List (List UInt8)) (M : Nat) (sent : Int) (w : World) (h : OBh w Hm B ls M sent) (hl : ls.length ≤ 4294967295) (hs : lens ls ≤ 4294967295) :
    Calls Try.prog 17 #[.pointer (some ⟨B, 0, none⟩)] w fun e w' => e = .returned (.pointer (some ⟨w.heap.size, 0, none⟩)) ∧ OBh w' (fun k => w.heap.size ≤ k) w.heap.size ls M sent ∧ Below w.heap.size w w' := by
  obtain ⟨A, c, c0, c1, c2, htx⟩ := h.txts hs
  have hF : Full ls := by obtain ⟨_, _, _, hF, _⟩ := h; exact hF
  have HTX := Lib.hid htx
  have HF := Lib.hid hF
  obtain ⟨i0, hi0, hz0, hz1, hz2⟩ := info_parts info27
  have HL1 := Lib.hid hi0
  have HL2 := Lib.hid hz0
  have HL3 := Lib.hid hz1
  have HL4 := Lib.hid hz2
  clear hi0 hz0 hz1 hz2 h htx hF
  go_enter Try.func17, Try.ntmps17
  go_wp2
  go_region
  all_goals
    have hst : ∃ blk T, Box (w.alloc (.cells #[.slice none 0 0, .int .i64 M, .int .i64 sent] 48)).drew w.heap.size blk T (ls.take 0) M sent ∧ (∀ g, blk = some g → w.heap.size ≤ g) ∧ (∀ q, T q → w.heap.size ≤ q) :=
      ⟨none, fun _ => False, ⟨_, [], (Blk.last w 48 _ rfl).drew, Own.nil _ 27 1, fun i h => absurd h (by simp)⟩, fun g hg => (by cases hg), fun k hk => hk.elim⟩
    have HST := Lib.hid hst
    have hb0 : Below w.heap.size w (w.alloc (.cells #[.slice none 0 0, .int .i64 M, .int .i64 sent] 48)).drew := ((Below.refl _ _).alloc (Nat.le_refl _) _).drew
    have HB0 := Lib.hid hb0
    have hsz0 : w.heap.size < (w.alloc (.cells #[.slice none 0 0, .int .i64 M, .int .i64 sent] 48)).drew.heap.size := by simp
    clear hst hb0
    go_upto_region 4 with (fail)
    generalize (w.alloc (.cells #[.slice none 0 0, .int .i64 M, .int .i64 sent] 48)).drew = w2 at *
    have d0 := (HB0.out.cell (World.block_lt_of_cell? w _ c0)).trans c0
    obtain ⟨P, hP⟩ : ∃ P, w.heap.size = P := ⟨_, rfl⟩
    have hPl : P < w2.heap.size := by omega
    rw [hP] at HST HB0
    have HP := Lib.hid hP
    have HSTC : Hid (CopySt w2 P ls 0 M sent) := Lib.hid HST.out
    have HST2 := HSTC
    clear HST HSTC hsz0 c0 c1 c2
    clear hP
    rw [HP.out]
    go_wp2_with fail
    go_loopw [23] (fun i wx => ∃ k : Nat, k ≤ ls.length ∧ i = .int .i64 k ∧ Hid (CopySt wx P ls k M sent) ∧ Hid (Below P w wx) ∧ P < wx.heap.size) (fun i _ => ls.length - (intOf i).toNat)
    case atStart => exact ⟨0, Nat.zero_le _, rfl, HST2, HB0, hPl⟩
    case round =>
      obtain ⟨k, hk, rfl, HS, HB, hPs⟩ := hrel
      clear HST2 HB0 hPl d0
      by_cases hlt : k < ls.length
      · obtain ⟨b, o, A', c', rfl, hc, hby, hle⟩ := HTX.out.get hlt
        have gk : (k : Int) < (ls.length : Int) := by omega
        have hcx : wr.cell? ⟨b, o + k, none⟩ = some (.slice A' ls[k].length c') := (HB.out.cell (by have := World.block_lt_of_cell? w _ hc; rw [HP.out] at this; exact this)).trans hc
        have hbx : BytesAt wr.drew A' ls[k] := BytesAt.below hby (show Below P w wr.drew from HB.out.drew) (by rw [HP.out]; exact Nat.le_refl _)
        have h0 : ls[k] ≠ [] := HF.out _ (List.getElem_mem hlt)
        have hst := HS.out
        obtain ⟨blk, T, ⟨vl, vs, hb, ho, ht⟩, hg, hT⟩ := hst
        have hLk : (ls.take k).length = k := by rw [List.length_take]; omega
        have HTS : Hid (ls.take (k + 1) = ls.take k ++ [ls[k]]) := Lib.hid (by rw [List.take_succ_eq_append_getElem hlt])
        have hLb : (ls.take k).length ≤ 4294967295 := by omega
        clear hc hby HS hLk
        have HT := Lib.hid ht
        clear ht
        generalize ls.take k = L at *
        generalize ls[k] = l at *
        obtain ⟨A0, cap, rfl, _, _, _⟩ := ho.rd
        have hcb : wr.cell? ⟨P, 0, none⟩ = some (.slice A0 L.length cap) := (hb.cell 0).trans rfl
        have hBne : ∀ g, blk = some g → P ≠ g := by
          rintro g rfl
          obtain ⟨_, _, _, _, _, _, h | ⟨g', off, cur, _, hbk, hg, _⟩⟩ := ho
          · cases h.2
          · injection hbk with hbk; subst hbk; exact hb.ne_ hg (by decide)
        have HBne := Lib.hid hBne
        have HG := Lib.hid hg
        have HTg := Lib.hid hT
        clear hBne hg hT
        go_upto_region 7 with (fail)
        go_region_law (first
          | (go_simp; go_at_call 21; refine (Clone_any A' l c' _ hbx h0 hle).mono ?_; rintro e w1 ⟨A1, c1, blk1, rfl, hown1, hB1, hnew1⟩; have hb1 : Blk w1 P 48 _ := Blk.below (show Blk wr.drew P 48 _ from hb) hB1 hPs; have hc1 : w1.cell? ⟨P, 0, none⟩ = some (.slice A0 L.length cap) := (hb1.cell 0).trans rfl; have hc1a : ∀ o, (w1.alloc o).cell? ⟨P, 0, none⟩ = some (.slice A0 L.length cap) := fun o => ((hb1.alloc o).cell 0).trans rfl; have ho1 := Own.kept ho (w' := w1) (fun g hg => hB1.block g (ho.lt g hg)))
          | (refine step_append_at _ (by rfl) _ _ _ (by rfl) 27 i0 _ 1 24 Try.underlying22 HL1.out HL2.out HL3.out HL4.out rfl (by omega) _ L.length vs blk (by rfl) (ho1.kept (fun g hg => Below.heap_alloc _ _ _ (by have := ho1.lt g hg; omega))) _ 1 1 [.slice A1 l.length c1] (by rfl) (by rfl) (.inr ⟨w1.heap.size, 0, rfl, fun j u hu => by rw [cell_of_row _ _ _ _ 27 (0, 0) (heap_last _ _ rfl)]; simpa using hu⟩) (by simp [Value.oneCell']) (by simp only [maxLen]; omega) (by omega) ?_; intro A2 c2 w3 blk2 hown2 hchg hat2; have hb3 : Blk w3 P 48 _ := (hb1.alloc _).chg hchg (fun h => (HBne.out _ h.symm) rfl); have hc3 : w3.cell? ⟨P, 0, none⟩ = some (.slice A0 L.length cap) := (hb3.cell 0).trans rfl; have hf3 := hb3.frozen 0))
        all_goals
          obtain ⟨blk', T', d1, d2, d3, d4⟩ := put_done h0 hb ho HT.out hown1 (show Below wr.heap.size wr w1 from ((Below.refl _ _).drew).trans hB1) hnew1 hb3 hown2 _ hchg hat2
          have HS2 : Hid (CopySt (w3.setCell ⟨P, 0, none⟩ (.slice A2 (L.length + 1) c2)) P ls (k + 1) M sent) := Lib.hid (by
            unfold CopySt
            rw [HTS.out]
            refine ⟨blk', T', d1, fun g hg => ?_, fun q hq => ?_⟩
            · rcases d3 g hg with h | h
              · exact HG.out g h
              · omega
            · rcases d4 q hq with h | h
              · exact HTg.out q h
              · omega)
          have HB2 : Hid (Below P w (w3.setCell ⟨P, 0, none⟩ (.slice A2 (L.length + 1) c2))) := Lib.hid (HB.out.trans (d2.below (fun i hi hm => by
            rcases hm with rfl | hm
            · exact Nat.le_refl _
            · exact HG.out i hm.symm) (by omega)))
          have hP3 : P < (w3.setCell ⟨P, 0, none⟩ (.slice A2 (L.length + 1) c2)).heap.size := Nat.lt_of_lt_of_le hPs d2.size
          clear d1 d2 d3 d4 hown1 hB1 hnew1 hb3 hown2 hchg hat2 hb1 hc1 hc1a ho1 hc3 hf3 hb ho hcb hbx hcx
          generalize w3.setCell ⟨P, 0, none⟩ (.slice A2 (L.length + 1) c2) = w4 at *
          go_wp2_with fail
          go_roundw
          case rel => exact ⟨k + 1, hlt, by go_num, HS2, HB2, hP3⟩
          case measure => simp [intOf]; omega
      · obtain rfl : k = ls.length := by omega
        go_wp2_with fail
        go_ret
        have hst := HS.out
        unfold CopySt at hst
        rw [List.take_length] at hst
        obtain ⟨blk, T, hb, hg, hT⟩ := hst
        rw [HP.out]
        refine ⟨rfl, ⟨blk, fun q => T q ∧ q < wr.heap.size, ?_, HF.out, Nat.le_refl _, hg, fun q hq => ⟨hT q hq.1, hq.2⟩⟩, HB.out⟩
        obtain ⟨vl, vs, g1, g2, g3⟩ := hb
        refine ⟨vl, vs, g1, g2, fun i hi => ?_⟩
        obtain ⟨u, hu, hx⟩ := g3 i hi
        exact ⟨u, hu, hx.kept fun g cur fr hT hg => ⟨rfl, hT, heap_lt hg⟩⟩
end Go.Proofs.Ytmjikfhabfodkaa
