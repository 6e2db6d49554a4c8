/- Frames: all that a decoder tells now. Helper. -/
import Derived.Test.YtalcafaibmbgjaaDoorFrmNext
namespace Go.Proofs.YtalcafaibmbgjaaDoor
open Go.RowKit
set_option linter.unusedVariables false
set_option linter.unusedSimpArgs false
set_option maxRecDepth 100000
set_option maxHeartbeats 6400000
theorem frN_drop (t : List UInt8) (q : Nat) : frN (t.drop q) 0 = frN t q := by
  unfold frN
  simp only [List.getD_eq_getElem?_getD, List.getElem?_drop, Nat.add_zero, Nat.zero_add]
theorem frP_drop (t : List UInt8) (q : Nat) : frP (t.drop q) 0 = frP t q := by
  unfold frP
  rw [frN_drop, List.drop_drop, Nat.zero_add]
/-- Where it stops: nothing whole, or something wrong. -/
theorem decNext_stop (w : World) (hE : ErrT w) (D : Nat) (hD : 0 ≠ D) (t : List UInt8) (q : Nat) (A : Option Addr) (c : Nat) (x : Value) (blk : Option Nat) (h : Dec w D (t.drop q) q 0 A c x blk) (ht : t.length ≤ 1000000) (hq : q ≤ t.length) (X : List (Nat × Nat) × Int × Nat) (hX : TStep t q X) :
    Calls Tryd.prog 15 #[.pointer (some ⟨D, 0, none⟩)] w fun e w' => e = .returned (.tuple #[.slice none 0 0, .bool false, .int .i64 X.2.1]) ∧ (X.1 = [] ∧ X.2.2 = q) ∧ Chg (decM D blk) w w' ∧
      ∃ A2 c2 x2 blk2, Dec w' D (if X.2.1 = 0 then t.drop q else []) q X.2.1 A2 c2 x2 blk2 ∧ (blk2 = blk ∨ blk2 = none) ∧ (∀ B, x2 = .iface 54 (.pointer (some ⟨B, 0, none⟩)) → w.heap.size ≤ B) := by
  have hlen : (t.drop q).length = t.length - q := List.length_drop
  have e1 := frN_drop t q
  cases hX with
  | short h1 =>
    refine (decNext_none w D _ q A c x blk h (.inl (by omega)) (by omega)).mono ?_
    rintro e w' ⟨rfl, ch, d⟩
    exact ⟨rfl, ⟨rfl, rfl⟩, ch, _, _, _, _, d, .inl rfl, fun B hB => by rw [d.nil_x] at hB; cases hB⟩
  | part h0 h1 h2 =>
    refine (decNext_none w D _ q A c x blk h (.inr ⟨by omega, by rw [e1]; exact h1, by omega⟩) (by omega)).mono ?_
    rintro e w' ⟨rfl, ch, d⟩
    exact ⟨rfl, ⟨rfl, rfl⟩, ch, _, _, _, _, d, .inl rfl, fun B hB => by rw [d.nil_x] at hB; cases hB⟩
  | long h0 h1 =>
    refine (decNext_bad w hE D _ q A c x blk h hD 10 (by decide) ((decLook_len w D _ q A c x blk h (by omega) (by rw [e1]; exact h1) (by omega)).mono fun e w' ⟨h1, h2, h3⟩ => ⟨_, Nat.le_refl _, h1, h2, h3⟩)).mono ?_
    rintro e w' ⟨rfl, ch, x', d, hx⟩
    exact ⟨rfl, ⟨rfl, rfl⟩, ch, _, _, _, _, d, .inr rfl, hx⟩
  | sum h1 h2 h3 =>
    refine (decNext_bad w hE D _ q A c x blk h hD 11 (by decide) ((decLook_all w D _ q A c x blk h (by rw [e1]; exact h1) (by rw [e1]; omega) (by omega)).mono fun e w' ⟨n, h4⟩ => ?_)).mono ?_
    · rcases h4 with ⟨h4, _⟩ | ⟨_, B, h5, h6, h7⟩
      · exact absurd (by rw [frP_drop, e1] at h4; exact h4) h3
      · exact ⟨B, h5, h6, n, h7⟩
    · rintro e w' ⟨rfl, ch, x', d, hx⟩
      exact ⟨rfl, ⟨rfl, rfl⟩, ch, _, _, _, _, d, .inr rfl, hx⟩
/-- A text that is told: its block, its place, its capacity, its bytes. -/
abbrev Tx : Type := Nat × Nat × Nat × List UInt8
def Tx.v (e : Tx) : Value := .slice (some ⟨e.1, e.2.1, none⟩) e.2.2.2.length e.2.2.1
/-- Texts that may be read, in blocks from B on. -/
def Txs (w : World) (B : Nat) (es : List Tx) : Prop := ∀ e ∈ es, BytesAt w (some ⟨e.1, e.2.1, none⟩) e.2.2.2 ∧ B ≤ e.1 ∧ e.1 < w.heap.size ∧ e.2.2.2.length ≤ e.2.2.1
theorem Txs.chg {M : Nat → Prop} {w w' : World} {B : Nat} {es : List Tx} (h : Txs w B es) (hc : Chg M w w') (hM : ∀ e ∈ es, ¬ M e.1) : Txs w' B es := fun e he => by
  obtain ⟨h1, h2, h3, h4⟩ := h e he
  refine ⟨?_, h2, Nat.lt_of_lt_of_le h3 hc.size, h4⟩
  rcases h1 with h1 | ⟨b, o, e1, h1⟩
  · exact .inl h1
  · injection e1 with e1
    injection e1 with e1 e2
    subst e1 e2
    refine .inr ⟨_, _, rfl, fun j u hu => ?_⟩
    have := h1 j u hu
    have hb := hc.block e.1 h3 (hM e he)
    unfold World.cell? at this ⊢
    simpa [hb] using this
/-- Of a decoder that tells: what was told so far. -/
structure TellIn (w wr : World) (D : Nat) (t : List UInt8) (p : Nat) (blk : Option Nat) (f q : Nat) (es : List Tx) (A' : Option Addr) (c' : Nat) (blkL : Option Nat) (A : Option Addr) (c : Nat) (blk2 : Option Nat) : Prop where
  o : Own wr 22 1 (.slice A' es.length c') es.length (es.map Tx.v) blkL
  g : ∀ g, blkL = some g → w.heap.size ≤ g
  d : Dec wr D (t.drop q) q 0 A c .nilIface blk2
  b : blk2 = blk ∨ blk2 = none
  n : Chg (decM D blk) w wr
  x : Txs wr w.heap.size es
  nx : ∀ e ∈ es, some e.1 ≠ blkL
  tt : ∃ done, toldF t (t.length + 1) p = (done ++ (toldF t f q).1, (toldF t f q).2) ∧ es.map (fun e => e.2.2.2) = done.map fun y => (t.drop y.1).take y.2
  ff : t.length < q + f
  qq : q ≤ t.length
  k : 7 * es.length ≤ q
def TellOut (w : World) (D : Nat) (t : List UInt8) (blk : Option Nat) (T : List (Nat × Nat) × Int × Nat) (e : Ending) (w' : World) : Prop :=
  ∃ A' c' es blkL, e = .returned (.tuple #[.slice A' es.length c', .int .i64 T.2.1]) ∧ Own w' 22 1 (.slice A' es.length c') es.length (es.map Tx.v) blkL ∧ (∀ g, blkL = some g → w.heap.size ≤ g) ∧ Txs w' w.heap.size es ∧
      es.map (fun e => e.2.2.2) = T.1.map (fun y => (t.drop y.1).take y.2) ∧ Chg (decM D blk) w w' ∧
      ∃ A2 c2 x2 blk2, Dec w' D (if T.2.1 = 0 then t.drop T.2.2 else []) T.2.2 T.2.1 A2 c2 x2 blk2 ∧ (blk2 = blk ∨ blk2 = none) ∧ (∀ B, x2 = .iface 54 (.pointer (some ⟨B, 0, none⟩)) → w.heap.size ≤ B)
theorem tell_any (w : World) (hE : ErrT w) (D : Nat) (hD : 0 ≠ D) (t : List UInt8) (p : Nat) (A : Option Addr) (c : Nat) (x : Value) (blk : Option Nat) (h : Dec w D (t.drop p) p 0 A c x blk) (ht : t.length ≤ 9000) (hp : p ≤ t.length) (hM : ∀ k, decM D blk k → k ≠ 0) :
    Calls Tryd.prog 8 #[.pointer (some ⟨D, 0, none⟩)] w (TellOut w D t blk (toldF t (t.length + 1) p)) := by
  obtain rfl := h.nil_x
  obtain ⟨T, hT⟩ : ∃ T, toldF t (t.length + 1) p = T := ⟨_, rfl⟩
  rw [hT]
  have HT := Lib.hid hT
  have HH := Lib.hid h
  have HE := Lib.hid hE
  have HM := Lib.hid hM
  have HL := Lib.hid (And.intro ht hp)
  obtain ⟨i0, hi0, hz0, hz1, hz2⟩ := info_parts infoSl
  have HL1 := Lib.hid hi0
  have HL2 := Lib.hid hz0
  have HL3 := Lib.hid hz1
  have HL4 := Lib.hid hz2
  have HK7 := Lib.hid h.b.lt
  have HK8 := Lib.hid h.o.lt
  clear h hE hM hT ht hp hi0 hz0 hz1 hz2
  go_enter Tryd.func8, Tryd.ntmps8
  go_wp2_with fail
  go_loopw [4, 5] (fun y z wr => ∃ (f q : Nat) (es : List Tx) (A' : Option Addr) (c' : Nat) (blkL : Option Nat) (A : Option Addr) (c : Nat) (blk2 : Option Nat), y = .slice A' es.length c' ∧ z = .int .i64 (es.length : Int) ∧ Hid (TellIn w wr D t p blk f q es A' c' blkL A c blk2)) (fun _ z _ => 2000 - (intOf z).toNat)
  case atStart => exact ⟨t.length + 1, p, [], none, 0, none, A, c, blk, rfl, rfl, Lib.hid ⟨Own.nil _ _ _, (fun g hg => by cases hg), HH.out, .inl rfl, Chg.refl _ _, (fun e he => by cases he), (fun e he => by cases he), ⟨[], by simp, rfl⟩, by omega, HL.out.2, by simp⟩⟩
  case round =>
    obtain ⟨f, q, es, AL, cL, blkL, A1, c1, blk2, rfl, rfl, HI⟩ := hrel
    obtain ⟨n, hn⟩ : ∃ n, es.length = n := ⟨_, rfl⟩
    rw [hn]
    have HN := Lib.hid hn
    have g1 : (n : Int) < 2000 := by have := HI.out.k; have := HI.out.qq; have := HL.out; omega
    obtain ⟨f, rfl⟩ : ∃ k, f = k + 1 := ⟨f - 1, by have := HI.out.ff; have := HI.out.qq; omega⟩
    have HE1 := Lib.hid (HE.out.chg HI.out.n (fun h => HM.out 0 h rfl))
    clear hn
    rcases toldF_step t f q with hs | ⟨h1, h2, h3, h4⟩
    · have HST := Lib.hid (decNext_stop wr HE1.out D hD t q A1 c1 _ blk2 HI.out.d (by have := HL.out; omega) HI.out.qq _ hs)
      obtain ⟨X, hX⟩ : ∃ X, toldF t (f + 1) q = X := ⟨_, rfl⟩
      rw [hX] at HST
      have HX := Lib.hid hX
      clear hs hX
      go_upto_region 5 with (fail)
      go_wp2_with fail
      refine HST.out.mono ?_
      rintro e w2 ⟨rfl, ⟨hx1, hx2⟩, ch, A2, c2, x2, blk3, d, hb, hxx⟩
      have hTX : T.1 = T.1 ++ X.1 ∧ T.2 = X.2 := by
        obtain ⟨done, e1, _⟩ := HI.out.tt
        rw [HT.out, HX.out] at e1
        rw [e1, hx1]; simp
      have HF := Lib.hid (And.intro hx1 (And.intro hx2 (And.intro ch (And.intro d (And.intro hb hxx)))))
      clear hx1 hx2 ch d hb hxx
      obtain ⟨ee, hee⟩ : ∃ ee, X.2.1 = ee := ⟨_, rfl⟩
      rw [hee]
      have HEE := Lib.hid hee
      clear hee
      have fin : TellOut w D t blk T (.returned (.tuple #[.slice AL n cL, .int .i64 ee])) w2 := by
        obtain ⟨h1, h2, h3, h4, h5, h6⟩ := HF.out
        have hM2 : ∀ k, decM D blk2 k → k < w.heap.size := by
          intro k hk
          rcases hk with hk | hk
          · rw [hk]; exact HK7.out
          · rcases HI.out.b with hb | hb
            · exact HK8.out k (by rw [← hb, hk])
            · rw [hb] at hk; cases hk
        refine ⟨_, _, es, _, by rw [hTX.2, HEE.out, HN.out], HI.out.o.chg h3 (fun g hg hk => ?_), HI.out.g, HI.out.x.chg h3 (fun e he hk => ?_), ?_, HI.out.n.trans h3 (fun k hk hm => ?_), A2, c2, x2, blk3, ?_, ?_, fun B hB => Nat.le_trans HI.out.n.size (h6 B hB)⟩
        · have := HI.out.g g hg; have := hM2 g hk; omega
        · have := (HI.out.x e he).2.1; have := hM2 _ hk; omega
        · obtain ⟨done, e1, e2⟩ := HI.out.tt
          rw [HT.out, HX.out, h1] at e1
          rw [e2, e1]; simp
        · rcases hm with hm | hm
          · exact .inl hm
          · rcases HI.out.b with hb | hb
            · exact .inr (by rw [← hb]; exact hm)
            · rw [hb] at hm; cases hm
        · rw [hTX.2, h2]; exact h4
        · rcases h5 with h5 | h5
          · rw [h5]; exact HI.out.b
          · exact .inr h5
      have HFIN := Lib.hid fin
      clear fin hTX
      by_cases h0 : ee = 0
      · subst h0
        go_wp2_with fail
        go_ret2
        exact HFIN.out
      · have q0 : (ee != 0) = true := by simp [h0]
        go_wp2_with fail
        go_ret2
        exact HFIN.out
    · have hlq : (t.drop q).length = t.length - q := List.length_drop
      have KN := Lib.hid (decNext_ok wr D (t.drop q) q A1 c1 _ blk2 HI.out.d (by rw [frN_drop]; exact h1) (by rw [frN_drop]; omega) (by have := HL.out; omega) (by have := HL.out; omega) (by rw [frN_drop, frP_drop]; exact h3))
      obtain ⟨N, hN⟩ : ∃ N, frN t q = N := ⟨_, rfl⟩
      rw [frN_drop, frP_drop, hN, List.drop_drop] at KN
      rw [hN] at h1 h2 h4
      have HP := Lib.hid (show frP t q = (t.drop (q + 6)).take N from by unfold frP; rw [hN])
      have HS := Lib.hid (And.intro h1 (And.intro h2 h4))
      clear h1 h2 h3 h4 hN hlq
      go_upto_region 5 with (fail)
      go_wp2_with fail
      refine KN.out.mono ?_
      rintro e w2 ⟨g', o', cN, rfl, hb, hg, hcN, ch, A2, c2, blk3, d2, hb3⟩
      have F2 := Lib.hid (And.intro hb (And.intro hg (And.intro hcN (And.intro ch (And.intro d2 hb3)))))
      clear hb hg hcN ch d2 hb3
      have hM2 : ∀ k, decM D blk2 k → k < w.heap.size := by
        intro k hk
        rcases hk with hk | hk
        · rw [hk]; exact HK7.out
        · rcases HI.out.b with hb | hb
          · exact HK8.out k (by rw [← hb, hk])
          · rw [hb] at hk; cases hk
      have HM2 := Lib.hid hM2
      have hown2 : Own w2 22 1 (.slice AL n cL) n (es.map Tx.v) blkL := by
        have := HI.out.o
        rw [HN.out] at this
        exact this.chg F2.out.2.2.2.1 fun g hg hk => by have := HI.out.g g hg; have := hM2 g hk; omega
      have HO2 := Lib.hid hown2
      have HK := Lib.hid (show 7 * n ≤ 9000 by have := HI.out.k; have := HI.out.qq; have := HL.out; have := HN.out; omega)
      clear hown2 hM2
      go_upto_region 4 with (at_builtin; refine wpList_append_at (w2.alloc (.cells #[.slice (some ⟨g', o', none⟩) N cN] 22)) rfl _ _ _ rfl 22 i0 _ 1 24 Tryd.underlying27 HL1.out HL2.out HL3.out HL4.out rfl (by omega) _ n (es.map Tx.v) blkL rfl (HO2.out.kept fun g hg => Below.heap_alloc _ _ _ (HO2.out.lt g hg)) _ 1 1 [.slice (some ⟨g', o', none⟩) N cN] rfl rfl (rd_last1 _ _ _) (by simp [Value.oneCell']) (by have := HK.out; simp only [maxLen]; omega) (by have := HK.out; omega) ?_; intro A6 c6 w6 blk6 hown hchg hat; have HO6 := Lib.hid hown; have HC6 := Lib.hid hchg; have HT6 := Lib.hid hat; clear hown hchg hat)
      go_wp2_with fail
      have hst := HS.out
      have hC6 : Chg (fun k => some k = blkL) w2 w6 := ((Chg.refl (fun k => some k = blkL) w2).alloc _).trans HC6.out fun _ _ h => h
      have hsz2 : wr.heap.size ≤ w2.heap.size := F2.out.2.2.2.1.size
      have hws : w.heap.size ≤ wr.heap.size := HI.out.n.size
      have hgN : g' < w2.heap.size := by
        rcases F2.out.1 with h | ⟨b, o, e1, h⟩
        · have := congrArg List.length h; rw [bcells_length, HP.out, List.length_take, List.length_drop] at this; simp at this; omega
        · injection e1 with e1; injection e1 with e1 e2; subst e1 e2
          have hlen : 0 < (bcells (frP t q)).length := by rw [bcells_length, HP.out, List.length_take, List.length_drop]; omega
          exact World.block_lt_of_cell? w2 _ (h 0 _ (List.getElem?_eq_getElem hlen))
      have hlenP : (frP t q).length = N := by rw [HP.out, List.length_take, List.length_drop]; omega
      have hnL : ∀ k, some k = blkL → w.heap.size ≤ k ∧ k < wr.heap.size := fun k hk => ⟨HI.out.g k hk.symm, HI.out.o.lt k hk.symm⟩
      have hx2 : Txs w2 w.heap.size es := HI.out.x.chg F2.out.2.2.2.1 fun e he hk => by have := (HI.out.x e he).2.1; have := HM2.out _ hk; omega
      refine ⟨⟨f, q + 6 + N, es ++ [(g', o', cN, frP t q)], A6, c6, blk6, A2, c2, blk3, by rw [List.length_append, HN.out]; rfl, by rw [List.length_append, HN.out]; push_cast; rfl, Lib.hid ?_⟩, by simp [intOf]; omega⟩
      have hb6 : ∀ k, blk6 = some k → (blkL = some k ∨ k = w2.heap.size + 1) := by
        intro k hk
        rcases HT6.out with h | h
        · exact .inl (by rw [← h]; exact hk)
        · rw [h] at hk; injection hk with hk; exact .inr (by rw [← hk]; simp)
      have e7 : q + (6 + N) = q + 6 + N := by omega
      refine ⟨?_, ?_, ?_, ?_, ?_, ?_, ?_, ?_, by have := HI.out.ff; omega, hst.2.1, by have := HI.out.k; simp; omega⟩
      · have h := HO6.out
        rw [List.length_append, HN.out, List.map_append]
        show Own w6 _ 1 (.slice A6 (n + 1) c6) (n + 1) (es.map Tx.v ++ [.slice (some ⟨g', o', none⟩) (frP t q).length cN]) blk6
        rw [hlenP]; exact h
      · intro k hk
        rcases hb6 k hk with h | h
        · exact HI.out.g k h
        · omega
      · have := F2.out.2.2.2.2.1
        rw [e7] at this
        refine this.chg hC6 (fun k hk hm => ?_) (fun B hB => by cases hB)
        have h1 := (hnL k hm).1
        have h2 : decM D blk2 k := by
          rcases hk with hk | hk
          · exact .inl hk
          · rcases F2.out.2.2.2.2.2 with h | h
            · exact .inr (by rw [← h]; exact hk)
            · rw [h] at hk; cases hk
        have := HM2.out k h2
        omega
      · rcases F2.out.2.2.2.2.2 with h | h
        · rw [h]; exact HI.out.b
        · exact .inr h
      · refine HI.out.n.trans (M' := fun k => decM D blk2 k ∨ some k = blkL) ?_ (fun k hk hm => ?_)
        · exact (F2.out.2.2.2.1.mono (fun k _ h => .inl h)).trans hC6 (fun k _ h => .inr h)
        · rcases hm with (hm | hm) | hm
          · exact .inl hm
          · rcases HI.out.b with hb | hb
            · exact .inr (by rw [← hb]; exact hm)
            · rw [hb] at hm; cases hm
          · have := (hnL k hm).1; omega
      · intro e he
        rcases List.mem_append.1 he with h | h
        · exact hx2.chg hC6 (fun e he hm => HI.out.nx e he hm) e h
        · obtain rfl := List.mem_singleton.1 h
          have hone : Txs w2 w.heap.size [(g', o', cN, frP t q)] := fun e he => by
            obtain rfl := List.mem_singleton.1 he
            exact ⟨F2.out.1, by have := F2.out.2.1; show w.heap.size ≤ g'; omega, hgN, by show (frP t q).length ≤ cN; rw [hlenP]; exact F2.out.2.2.1⟩
          exact hone.chg hC6 (fun e he hm => by obtain rfl := List.mem_singleton.1 he; have h3 : g' < wr.heap.size := (hnL _ hm).2; have := F2.out.2.1; omega) _ (by simp)
      · intro e he hk
        rcases List.mem_append.1 he with h | h
        · rcases hb6 e.1 hk.symm with h2 | h2
          · exact HI.out.nx e h h2.symm
          · have := (hx2 e h).2.2.1; omega
        · obtain rfl := List.mem_singleton.1 h
          rcases hb6 _ hk.symm with h2 | h2
          · have h3 : g' < wr.heap.size := (hnL _ h2.symm).2; have := F2.out.2.1; omega
          · simp at h2; omega
      · obtain ⟨done, e1, e2⟩ := HI.out.tt
        refine ⟨done ++ [(q + 6, N)], ?_, ?_⟩
        · rw [e1, hst.2.2]; simp
        · rw [List.map_append, List.map_append, e2]; simp [HP.out]
end Go.Proofs.YtalcafaibmbgjaaDoor
