/- What was put is taken in its order: the walk of the law. Helper. -/
import Derived.Test.YtghmldfllieonaaHeapSteps
import Derived.StillTailTactics
namespace Go.Proofs.Ytghmldfllieonaa
open Go.RowKit
set_option linter.unusedVariables false
set_option linter.unusedSimpArgs false
theorem rd_item {w : World} {A : Option Addr} {l : List It} (h : Rd w A (rowsI l)) {k : Nat} (hk : k < l.length) : ∃ b off, A = some ⟨b, off, none⟩ ∧ ∀ j, j < 7 → w.cell? ⟨b, off + k * 7 + j, none⟩ = (g l k).c[j]? := by
  obtain ⟨b, off, rfl, _, hc⟩ := h.get (k := k * 7) (by rw [rowsI_length]; omega)
  refine ⟨b, off, rfl, fun j hj => ?_⟩
  rw [Nat.add_assoc, ← rowsI_get l k hk j hj]
  have hl : k * 7 + j < (rowsI l).length := by rw [rowsI_length]; omega
  rw [List.getElem?_eq_getElem hl]
  exact hc _ _ (List.getElem?_eq_getElem hl)
/-- So many are taken. -/
def TakeAt (w W : World) (gB gR : Nat) (L : List It) (i : Nat) : Prop :=
  ∃ blk, HeapO (RU gR blk) w W gB (L.drop i) ∧ RefH W gR L blk ∧ w.heap.size ≤ gR ∧ (∀ g, blk = some g → w.heap.size ≤ g) ∧ Srt L
theorem TakeAt.step {w W W' : World} {gB gR : Nat} {L : List It} {i : Nat} (h : TakeAt w W gB gR L i) (hB : Below W.heap.size W W') : TakeAt w W' gB gR L i := by
  obtain ⟨blk, h1, h2, h3⟩ := h; exact ⟨blk, h1.step hB, h2.new hB, h3⟩
theorem TakeAt.nw {w W : World} {gB gR : Nat} {L : List It} {i : Nat} (h : TakeAt w W gB gR L i) : Nw w W := by
  obtain ⟨blk, h, _⟩ := h; exact h.nw
theorem take_at (w W : World) (gB gR : Nat) (L : List It) (i : Nat) (h : TakeAt w W gB gR L i) (hi : i < L.length) (hl : L.length ≤ 100000) : Calls Try.prog 13 #[.pointer (some ⟨gB, 0, none⟩)] W fun r w' => r = .returned (itv (g L i) true) ∧ TakeAt w w' gB gR L (i + 1) := by
  obtain ⟨blk, h1, h2, h3, h4, h5⟩ := h
  have e : L.drop i = g L i :: L.drop (i + 1) := by rw [List.drop_eq_getElem_cons hi, g_get L i hi]
  have hs : Srt (L.drop i) := List.Pairwise.sublist (List.drop_sublist i L) h5
  obtain ⟨q1, q2, q3⟩ := hs.least e
  refine (take_in (RU gR blk) w W gB (L.drop i) (g L i) h1 q1 q2 (by rw [List.length_drop]; omega)).mono fun r w' ⟨hr, ho⟩ => ⟨hr, blk, ?_, BothH.ours h2 ho, h3, h4, h5⟩
  rw [← q3]; exact ho.1
theorem take_end (w W : World) (gB gR : Nat) (L : List It) (i : Nat) (h : TakeAt w W gB gR L i) (hi : i = L.length) : Calls Try.prog 13 #[.pointer (some ⟨gB, 0, none⟩)] W fun r w' => r = .returned (itv It.zero false) ∧ Nw w w' := by
  obtain ⟨blk, h1, _⟩ := h
  rw [hi, List.drop_length] at h1
  exact (takeNo_in (RU gR blk) w W gB h1).mono fun r w' ⟨hr, ho⟩ => ⟨hr, ho.1.nw⟩
theorem srt_lt {L : List It} (hs : Srt L) {i j : Nat} (hij : i < j) (hj : j < L.length) : (g L i).less (g L j) = true := by
  rw [g_get L i (by omega), g_get L j hj]
  exact List.pairwise_iff_getElem.1 hs i j (by omega) hj hij
set_option maxRecDepth 100000
set_option maxHeartbeats 6400000
theorem takes_out (w : World) (A1 A2 : Option Addr) (n1 c1 n2 c2 : Nat) (h : 100 < n1 ∨ 100 < n2) (hm : n1 ≤ maxLen ∧ n2 ≤ maxLen) : Calls Try.prog 3 #[.slice A1 n1 c1, .slice A2 n2 c2] w fun e w' => e = .returned (.bool true) ∧ Nw w w' := by
  have KK := Lib.hid (known_any w)
  by_cases h1 : 100 < n1
  · have i1 : (100 : Int) < (n1 : Int) := by omega
    clear h hm
    go_enter Try.func3, Try.ntmps3
    go_wp2_with fail
    refine KK.out.mono ?_
    rintro e w1 ⟨rfl, h1⟩
    go_wp2_with fail
    go_ret
    exact ⟨rfl, h1⟩
  · have i1 : ¬ (100 : Int) < (n1 : Int) := by omega
    have i2 : (100 : Int) < (n2 : Int) := by omega
    clear h hm
    go_enter Try.func3, Try.ntmps3
    go_wp2_with fail
    refine KK.out.mono ?_
    rintro e w1 ⟨rfl, h1⟩
    go_wp2_with fail
    go_ret
    exact ⟨rfl, h1⟩
theorem takes_in (w : World) (A1 A2 : Option Addr) (n1 c1 n2 c2 : Nat) (l1 l2 : List It) (hl1 : l1.length = n1) (hl2 : l2.length = n2) (h1 : n1 ≤ 100) (h2 : n2 ≤ 100) (hr1 : Rd w A1 (rowsI l1)) (hr2 : Rd w A2 (rowsI l2)) (hw1 : ∀ x ∈ l1, WOk x) (hw2 : ∀ x ∈ l2, WOk x) : Calls Try.prog 3 #[.slice A1 n1 c1, .slice A2 n2 c2] w fun e w' => e = .returned (.bool true) ∧ Nw w w' := by
  have KN := Lib.hid (new_in (UL []) w w (Nw.refl w) (fun k h => by simp [UL] at h))
  have KP1 := Lib.hid (fun W gB gR L (e : It) (h : BothH w W gB gR L) => put_mine w W gB gR L e h)
  have KP2 := Lib.hid (fun W gB gR L (e : It) x (h : PutMid w W gB gR L e x) => put_theirs w W gB gR L e x h)
  have KD1 := Lib.hid (fun W gB gR L O N (h : BothH w W gB gR L) => drop_mine w W gB gR L O N h)
  have KD2 := Lib.hid (fun W gB gR L O N x is (h : DropMid w W gB gR L O N x is) => drop_theirs w W gB gR L O N x is h)
  have KK := Lib.hid (fun W => known_any W)
  have g1 : ¬ (100 : Int) < (n1 : Int) := by omega
  have g2 : ¬ (100 : Int) < (n2 : Int) := by omega
  have HI := Lib.hid (show l1.length = n1 ∧ l2.length = n2 ∧ n1 ≤ 100 ∧ n2 ≤ 100 from ⟨hl1, hl2, h1, h2⟩)
  have HR := Lib.hid (show Rd w A1 (rowsI l1) ∧ Rd w A2 (rowsI l2) ∧ (∀ x ∈ l1, WOk x) ∧ ∀ x ∈ l2, WOk x from ⟨hr1, hr2, hw1, hw2⟩)
  clear hl1 hl2 hr1 hr2 hw1 hw2
  go_enter Try.func3, Try.ntmps3
  go_wp2_with fail
  refine KN.out.mono ?_
  rintro e wa ⟨gB, rfl, _, ha, _⟩
  obtain ⟨gR, hgR⟩ : ∃ gR, wa.heap.size = gR := ⟨_, rfl⟩
  obtain ⟨w1, hw1⟩ : ∃ w1, wa.alloc (.cells #[.slice none 0 0] 28) = w1 := ⟨_, rfl⟩
  have hB1 : BothH w w1 gB gR [] := by
    refine ⟨none, ha.grow (w' := w1) (by rw [← hw1]; exact (Below.refl _ wa).alloc (Nat.le_refl _) _) (fun k hk => ?_) (fun k hk => ?_), ⟨none, 0, by rw [← hw1]; exact Blk.last wa _ _ hgR, Own.nil _ _ _⟩, by rw [← hgR]; exact ha.nw.size, fun g hg => (by cases hg), List.Pairwise.nil⟩
    · rcases hk with rfl | hk
      · exact .inr (by omega)
      · cases hk
    · rcases hk with rfl | hk
      · rw [← hw1]; simp; omega
      · cases hk
  have HB1 := Lib.hid hB1
  have HX := Lib.hid (And.intro hgR hw1)
  clear hB1 hgR hw1 ha
  go_upto_region 4 with (fail)
  rw [HX.out.2, HX.out.1]
  go_wp2_with fail
  go_loopw [7] (fun i wr => ∃ (k : Nat) (L : List It), k ≤ n1 ∧ L.length ≤ k ∧ i = .int .i64 (k : Int) ∧ Hid (BothH w wr gB gR L)) (fun i _ => n1 - (intOf i).toNat)
  case atStart => exact ⟨0, [], by omega, by simp, rfl, HB1⟩
  case round =>
    obtain ⟨k, L, hk, hLk, rfl, HB⟩ := hrel
    by_cases hlt : k < n1
    · as_aux_lemma =>
        have ik : (k : Int) < (n1 : Int) := by omega
        have hrd := HR.out.1.nw HB.out.nw
        obtain ⟨b, off, rfl, it⟩ := rd_item hrd (k := k) (by rw [HI.out.1]; exact hlt)
        have hwx : WOk (g l1 k) := HR.out.2.2.1 _ (by rw [g_get l1 k (by rw [HI.out.1]; exact hlt)]; exact List.getElem_mem _)
        have HIT := Lib.hid (show ∀ W, Nw w W → ∀ j, j < 7 → W.cell? ⟨b, off + k * 7 + j, none⟩ = (g l1 k).c[j]? from fun W hW j hj => by
          obtain ⟨b', off', e', it'⟩ := rd_item (HR.out.1.nw hW) (k := k) (by rw [HI.out.1]; exact hlt)
          injection e' with e'
          injection e' with e1 e2
          subst e1 e2
          exact it' j hj)
        obtain ⟨x, hx⟩ : ∃ x, g l1 k = x := ⟨_, rfl⟩
        rw [hx] at it hwx HIT
        have KPa := Lib.hid (KP1.out wr gB gR L x HB.out hwx)
        have KPb := Lib.hid (fun W y (h : PutMid w W gB gR L x y) => KP2.out W gB gR L x y h (by have := HI.out; omega))
        have HLK := Lib.hid hLk
        clear hx hwx hrd hLk
        have z0 : wr.cell? ⟨b, off + k * 7, none⟩ = some (.int .i64 (x).k.T) := it 0 (by omega)
        have z1 : wr.cell? ⟨b, off + k * 7 + 1, none⟩ = some (.int .i64 (x).k.O) := it 1 (by omega)
        have z2 : wr.cell? ⟨b, off + k * 7 + 2, none⟩ = some (.int .i64 (x).k.S) := it 2 (by omega)
        have z3 : wr.cell? ⟨b, off + k * 7 + 3, none⟩ = some (.int .i64 (x).p) := it 3 (by omega)
        have z4 : wr.cell? ⟨b, off + k * 7 + 4, none⟩ = some (.int .i64 (x).q) := it 4 (by omega)
        have z5 : wr.cell? ⟨b, off + k * 7 + 5, none⟩ = some (.int .i64 (x).d) := it 5 (by omega)
        have z6 : wr.cell? ⟨b, off + k * 7 + 6, none⟩ = some (.int .i64 (x).n) := it 6 (by omega)
        clear it
        go_wp2_with fail
        refine KPa.out.mono ?_
        rintro r w2 ⟨y, rfl, h2⟩
        have H2 := Lib.hid h2
        have hnw2 : Nw w w2 := by
          rcases h2 with ⟨_, _, h⟩ | ⟨_, _, _, h⟩ | ⟨_, _, _, _, blk, h, _⟩
          · exact h.nw
          · exact h.nw
          · exact h.nw
        have it2 := HIT.out w2 hnw2
        clear h2 z0 z1 z2 z3 z4 z5 z6 hnw2
        have z0 : w2.cell? ⟨b, off + k * 7, none⟩ = some (.int .i64 (x).k.T) := it2 0 (by omega)
        have z1 : w2.cell? ⟨b, off + k * 7 + 1, none⟩ = some (.int .i64 (x).k.O) := it2 1 (by omega)
        have z2 : w2.cell? ⟨b, off + k * 7 + 2, none⟩ = some (.int .i64 (x).k.S) := it2 2 (by omega)
        have z3 : w2.cell? ⟨b, off + k * 7 + 3, none⟩ = some (.int .i64 (x).p) := it2 3 (by omega)
        have z4 : w2.cell? ⟨b, off + k * 7 + 4, none⟩ = some (.int .i64 (x).q) := it2 4 (by omega)
        have z5 : w2.cell? ⟨b, off + k * 7 + 5, none⟩ = some (.int .i64 (x).d) := it2 5 (by omega)
        have z6 : w2.cell? ⟨b, off + k * 7 + 6, none⟩ = some (.int .i64 (x).n) := it2 6 (by omega)
        clear it2
        go_wp2_with fail
        refine (KPb.out w2 y H2.out).mono ?_
        rintro r w3 ⟨rfl, L', hL', h3⟩
        have H3 := Lib.hid h3
        have HL' := Lib.hid hL'
        clear h3 hL' z0 z1 z2 z3 z4 z5 z6
        go_wp2_with fail
        go_roundw
        case rel => exact ⟨k + 1, L', by omega, by have := HL'.out; have := HLK.out; omega, by go_num, H3⟩
        case measure => simp [intOf]; omega
    · obtain rfl : k = n1 := by omega
      clear KP1 KP2
      have ik : ¬ (k : Int) < (k : Int) := by omega
      go_wp2_with fail
      go_loopw [8] (fun i wr => ∃ (j : Nat) (L : List It), j ≤ n2 ∧ L.length ≤ 100 ∧ i = .int .i64 (j : Int) ∧ Hid (BothH w wr gB gR L)) (fun i _ => n2 - (intOf i).toNat)
      case atStart => exact ⟨0, L, by omega, by omega, rfl, HB⟩
      case round =>
        clear HB hLk
        obtain ⟨j, L, hj, hLk, rfl, HB⟩ := hrel
        by_cases hlt2 : j < n2
        · as_aux_lemma =>
            have ij : (j : Int) < (n2 : Int) := by omega
            have HIT := Lib.hid (show ∃ b off, A2 = some ⟨b, off, none⟩ ∧ ∀ W, Nw w W → ∀ q, q < 7 → W.cell? ⟨b, off + j * 7 + q, none⟩ = (g l2 j).c[q]? from by
              obtain ⟨b, off, e, _⟩ := rd_item HR.out.2.1 (k := j) (by rw [HI.out.2.1]; exact hlt2)
              refine ⟨b, off, e, fun W hW q hq => ?_⟩
              obtain ⟨b', off', e', it'⟩ := rd_item (HR.out.2.1.nw hW) (k := j) (by rw [HI.out.2.1]; exact hlt2)
              rw [e] at e'
              injection e' with e'
              injection e' with e1 e2
              subst e1 e2
              exact it' q hq)
            have hwx : WOk (g l2 j) := HR.out.2.2.2 _ (by rw [g_get l2 j (by rw [HI.out.2.1]; exact hlt2)]; exact List.getElem_mem _)
            obtain ⟨b, off, rfl, hit⟩ := HIT.out
            clear HIT
            obtain ⟨x, hx⟩ : ∃ x, g l2 j = x := ⟨_, rfl⟩
            rw [hx] at hit hwx
            have HIT := Lib.hid hit
            have KDa := Lib.hid (fun W (h : BothH w W gB gR L) => KD1.out W gB gR L x.k.O x.n h hwx.1 hwx.2 (by omega))
            have KDb := Lib.hid (fun W y is (h : DropMid w W gB gR L x.k.O x.n y is) => KD2.out W gB gR L x.k.O x.n y is h (by omega))
            have z1 : wr.cell? ⟨b, off + j * 7 + 1, none⟩ = some (.int .i64 x.k.O) := hit wr HB.out.nw 1 (by omega)
            have z6 : wr.cell? ⟨b, off + j * 7 + 6, none⟩ = some (.int .i64 x.n) := hit wr HB.out.nw 6 (by omega)
            have HLK := Lib.hid hLk
            clear hx hwx hit hLk
            go_wp2_with fail
            go_still_tail 13, (by kernel_rfl)
            change wpList _ _ _ _ _ wr.drew
            go_wp2_with fail
            refine (KDa.out wr.drew (HB.out.step (Below.refl _ _).drew)).mono ?_
            rintro r w2 ⟨y, is, rfl, h2⟩
            have H2 := Lib.hid h2
            have hnw2 : Nw w w2 := by
              rcases h2 with ⟨_, _, _, h⟩ | ⟨_, _, _, _, _, blk, h, _⟩
              · exact h.nw
              · exact h.nw
            have z1 : w2.cell? ⟨b, off + j * 7 + 1, none⟩ = some (.int .i64 x.k.O) := HIT.out w2 hnw2 1 (by omega)
            have z6 : w2.cell? ⟨b, off + j * 7 + 6, none⟩ = some (.int .i64 x.n) := HIT.out w2 hnw2 6 (by omega)
            clear h2 hnw2
            go_wp2_with fail
            go_still_tail 13, (by kernel_rfl)
            change wpList _ _ _ _ _ w2.drew
            go_wp2_with fail
            refine (KDb.out w2.drew y is (H2.out.step (Below.refl _ _).drew)).mono ?_
            rintro r w3 ⟨rfl, L', hL', h3⟩
            have H3 := Lib.hid h3
            have HL' := Lib.hid hL'
            clear h3 hL' z1 z6
            go_wp2_with fail
            go_roundw
            case rel => exact ⟨j + 1, L', by omega, by have := HL'.out; have := HLK.out; omega, by go_num, H3⟩
            case measure => simp [intOf]; omega
        · obtain rfl : j = n2 := by omega
          as_aux_lemma =>
            have ij : ¬ (j : Int) < (j : Int) := by omega
            have hstart : TakeAt w wr gB gR L 0 := by
              obtain ⟨blk, q1, q2, q3⟩ := HB.out
              exact ⟨blk, by rw [List.drop_zero]; exact q1, q2, q3⟩
            have HST := Lib.hid hstart
            have HLK := Lib.hid hLk
            have HLK2 := Lib.hid (show L.length ≤ 100000 by omega)
            obtain ⟨n, hn⟩ : ∃ n, L.length = n := ⟨_, rfl⟩
            have HN := Lib.hid hn
            have hnb : n ≤ 100000 := by omega
            clear hstart hLk KD1 KD2 HB hn
            go_wp2_with fail
            go_loopw [9] (fun i wr => ∃ i2 : Nat, i2 ≤ n ∧ i = .int .i64 (i2 : Int) ∧ Hid (TakeAt w wr gB gR L i2)) (fun i _ => n - (intOf i).toNat)
            case atStart => exact ⟨0, by omega, rfl, HST⟩
            case round =>
              clear HST
              obtain ⟨k, hk, rfl, HT⟩ := hrel
              have hr0 : ∃ A c, wr.cell? ⟨gR, 0, none⟩ = some (.slice A n c) := by
                obtain ⟨blk, _, ⟨A, c, hb, _⟩, _⟩ := HT.out
                exact ⟨A, c, by rw [← HN.out]; exact (hb.cell 0).trans rfl⟩
              obtain ⟨A0, c0', hr0⟩ := hr0
              by_cases hlt3 : k < n
              · have ik : (k : Int) < (n : Int) := by omega
                have kt := take_at w wr gB gR L k HT.out (by rw [HN.out]; exact hlt3) HLK2.out
                have hsrt : 0 < k → (g L (k - 1)).less (g L k) = true := fun h0 => by
                  obtain ⟨blk, _, _, _, _, hs⟩ := HT.out
                  exact srt_lt hs (by omega) (by rw [HN.out]; exact hlt3)
                obtain ⟨x, hx⟩ : ∃ x, g L k = x := ⟨_, rfl⟩
                rw [hx] at kt hsrt
                have hit : itv x true = .tuple #[.agg #[.int .i64 (x).k.T, .int .i64 (x).k.O, .int .i64 (x).k.S, .int .i64 (x).p, .int .i64 (x).q, .int .i64 (x).d, .int .i64 (x).n], .bool true] := rfl
                rw [hit] at kt
                have KT := Lib.hid kt
                have HSRT := Lib.hid hsrt
                have HXX := Lib.hid hx
                clear kt hsrt hx hit
                go_wp2_with fail
                refine KT.out.mono ?_
                rintro r w2 ⟨rfl, h2⟩
                have H2 := Lib.hid h2
                clear h2 hr0
                obtain ⟨gX, hgX⟩ : ∃ gX, w2.heap.size = gX := ⟨_, rfl⟩
                obtain ⟨w3, hw3⟩ : ∃ w3, w2.alloc (.cells #[.int .i64 (x).k.T, .int .i64 (x).k.O, .int .i64 (x).k.S, .int .i64 (x).p, .int .i64 (x).q, .int .i64 (x).d, .int .i64 (x).n] 36) = w3 := ⟨_, rfl⟩
                have HX3 := Lib.hid (And.intro hgX hw3)
                have HB3 := Lib.hid (show Below w2.heap.size w2 w3 ∧ Blk w3 gX 36 x.c.toArray by
                  rw [← hw3]
                  exact ⟨(Below.refl _ w2).alloc (Nat.le_refl _) _, Blk.last w2 _ _ hgX⟩)
                clear hgX hw3
                go_upto_region 18 with (fail)
                rw [HX3.out.2, HX3.out.1]
                have H3 := Lib.hid (H2.out.step HB3.out.1)
                obtain ⟨blk, q1, q2, q3, q4, q5⟩ := H3.out
                obtain ⟨b, off, c, hb2, _, _, _, _, ho2⟩ := q2.at (k := k) (by rw [HN.out]; exact hlt3)
                rw [HN.out] at hb2 ho2
                have hown := Lib.hid ho2
                have c0 : w3.cell? ⟨gR, 0, none⟩ = some (.slice (some ⟨b, off, none⟩) n c) := (hb2.cell 0).trans rfl
                have it := fun j hj => (ho2.item hlt3 j hj).1
                rw [HXX.out] at it
                have x0 : w3.cell? ⟨gX, 0, none⟩ = some (.int .i64 (x).k.T) := (HB3.out.2.cell 0).trans rfl
                have x1 : w3.cell? ⟨gX, 1, none⟩ = some (.int .i64 (x).k.O) := (HB3.out.2.cell 1).trans rfl
                have x2 : w3.cell? ⟨gX, 2, none⟩ = some (.int .i64 (x).k.S) := (HB3.out.2.cell 2).trans rfl
                have x3 : w3.cell? ⟨gX, 3, none⟩ = some (.int .i64 (x).p) := (HB3.out.2.cell 3).trans rfl
                have x4 : w3.cell? ⟨gX, 4, none⟩ = some (.int .i64 (x).q) := (HB3.out.2.cell 4).trans rfl
                have x5 : w3.cell? ⟨gX, 5, none⟩ = some (.int .i64 (x).d) := (HB3.out.2.cell 5).trans rfl
                have x6 : w3.cell? ⟨gX, 6, none⟩ = some (.int .i64 (x).n) := (HB3.out.2.cell 6).trans rfl
                have z0 : w3.cell? ⟨b, off + k * 7, none⟩ = some (.int .i64 (x).k.T) := it 0 (by omega)
                have z1 : w3.cell? ⟨b, off + k * 7 + 1, none⟩ = some (.int .i64 (x).k.O) := it 1 (by omega)
                have z2 : w3.cell? ⟨b, off + k * 7 + 2, none⟩ = some (.int .i64 (x).k.S) := it 2 (by omega)
                have z3 : w3.cell? ⟨b, off + k * 7 + 3, none⟩ = some (.int .i64 (x).p) := it 3 (by omega)
                have z4 : w3.cell? ⟨b, off + k * 7 + 4, none⟩ = some (.int .i64 (x).q) := it 4 (by omega)
                have z5 : w3.cell? ⟨b, off + k * 7 + 5, none⟩ = some (.int .i64 (x).d) := it 5 (by omega)
                have z6 : w3.cell? ⟨b, off + k * 7 + 6, none⟩ = some (.int .i64 (x).n) := it 6 (by omega)
                clear it hb2 ho2 q1 q2 q3 q4 q5
                by_cases h0 : 0 < k
                · obtain ⟨p, hp⟩ : ∃ p, k - 1 = p := ⟨_, rfl⟩
                  have hsrt := HSRT.out h0
                  rw [hp] at hsrt
                  obtain ⟨y, hy⟩ : ∃ y, g L p = y := ⟨_, rfl⟩
                  rw [hy] at hsrt
                  have it := fun j hj => (hown.out.item (i := p) (by omega) j hj).1
                  rw [hy] at it
                  have u0 : w3.cell? ⟨b, off + p * 7, none⟩ = some (.int .i64 (y).k.T) := it 0 (by omega)
                  have u1 : w3.cell? ⟨b, off + p * 7 + 1, none⟩ = some (.int .i64 (y).k.O) := it 1 (by omega)
                  have u2 : w3.cell? ⟨b, off + p * 7 + 2, none⟩ = some (.int .i64 (y).k.S) := it 2 (by omega)
                  have u3 : w3.cell? ⟨b, off + p * 7 + 3, none⟩ = some (.int .i64 (y).p) := it 3 (by omega)
                  have u4 : w3.cell? ⟨b, off + p * 7 + 4, none⟩ = some (.int .i64 (y).q) := it 4 (by omega)
                  have u5 : w3.cell? ⟨b, off + p * 7 + 5, none⟩ = some (.int .i64 (y).d) := it 5 (by omega)
                  have u6 : w3.cell? ⟨b, off + p * 7 + 6, none⟩ = some (.int .i64 (y).n) := it 6 (by omega)
                  have kb := fun W => refLessI_any y x W
                  rw [hsrt] at kb
                  have KB := Lib.hid kb
                  have ik0 : (0 : Int) < (k : Int) := by omega
                  have d0 : decide ((0 : Int) < (k : Int)) = true := decide_eq_true ik0
                  have d1 : decide (0 < k) = true := decide_eq_true h0
                  have kw : IntKind.i64.wrap ((k : Int) - 1) = (p : Int) := by rw [show (k : Int) - 1 = (p : Int) by omega]; exact IntWalk.i64_in (n := (p : Int)) (by constructor <;> omega)
                  have ip : (p : Int) < (n : Int) := by omega
                  have hss : ∀ W, Nw w3 W → Nw w3 W ∧ W.cell? ⟨gR, 0, none⟩ = some (.slice (some ⟨b, off, none⟩) n c) ∧ W.cell? ⟨gX, 0, none⟩ = some (.int .i64 x.k.T) ∧ W.cell? ⟨gX, 1, none⟩ = some (.int .i64 x.k.O) ∧ W.cell? ⟨gX, 2, none⟩ = some (.int .i64 x.k.S) ∧ W.cell? ⟨gX, 3, none⟩ = some (.int .i64 x.p) ∧ W.cell? ⟨gX, 4, none⟩ = some (.int .i64 x.q) ∧ W.cell? ⟨gX, 5, none⟩ = some (.int .i64 x.d) ∧ W.cell? ⟨gX, 6, none⟩ = some (.int .i64 x.n) ∧ W.cell? ⟨b, off + k * 7, none⟩ = some (.int .i64 x.k.T) ∧ W.cell? ⟨b, off + k * 7 + 1, none⟩ = some (.int .i64 x.k.O) ∧ W.cell? ⟨b, off + k * 7 + 2, none⟩ = some (.int .i64 x.k.S) ∧ W.cell? ⟨b, off + k * 7 + 3, none⟩ = some (.int .i64 x.p) ∧ W.cell? ⟨b, off + k * 7 + 4, none⟩ = some (.int .i64 x.q) ∧ W.cell? ⟨b, off + k * 7 + 5, none⟩ = some (.int .i64 x.d) ∧ W.cell? ⟨b, off + k * 7 + 6, none⟩ = some (.int .i64 x.n) ∧ W.cell? ⟨b, off + p * 7, none⟩ = some (.int .i64 y.k.T) ∧ W.cell? ⟨b, off + p * 7 + 1, none⟩ = some (.int .i64 y.k.O) ∧ W.cell? ⟨b, off + p * 7 + 2, none⟩ = some (.int .i64 y.k.S) ∧ W.cell? ⟨b, off + p * 7 + 3, none⟩ = some (.int .i64 y.p) ∧ W.cell? ⟨b, off + p * 7 + 4, none⟩ = some (.int .i64 y.q) ∧ W.cell? ⟨b, off + p * 7 + 5, none⟩ = some (.int .i64 y.d) ∧ W.cell? ⟨b, off + p * 7 + 6, none⟩ = some (.int .i64 y.n) := fun W h => ⟨h, h.cell c0, h.cell x0, h.cell x1, h.cell x2, h.cell x3, h.cell x4, h.cell x5, h.cell x6, h.cell z0, h.cell z1, h.cell z2, h.cell z3, h.cell z4, h.cell z5, h.cell z6, h.cell u0, h.cell u1, h.cell u2, h.cell u3, h.cell u4, h.cell u5, h.cell u6⟩
                  have HSS := Lib.hid hss
                  have hi0 := Nw.refl w3
                  clear kb hsrt hss it hp hy HSRT c0 x0 x1 x2 x3 x4 x5 x6 z0 z1 z2 z3 z4 z5 z6 u0 u1 u2 u3 u4 u5 u6
                  go_region_held3 (fun W => Nw w3 W ∧ W.cell? ⟨gR, 0, none⟩ = some (.slice (some ⟨b, off, none⟩) n c) ∧ W.cell? ⟨gX, 0, none⟩ = some (.int .i64 x.k.T) ∧ W.cell? ⟨gX, 1, none⟩ = some (.int .i64 x.k.O) ∧ W.cell? ⟨gX, 2, none⟩ = some (.int .i64 x.k.S) ∧ W.cell? ⟨gX, 3, none⟩ = some (.int .i64 x.p) ∧ W.cell? ⟨gX, 4, none⟩ = some (.int .i64 x.q) ∧ W.cell? ⟨gX, 5, none⟩ = some (.int .i64 x.d) ∧ W.cell? ⟨gX, 6, none⟩ = some (.int .i64 x.n) ∧ W.cell? ⟨b, off + k * 7, none⟩ = some (.int .i64 x.k.T) ∧ W.cell? ⟨b, off + k * 7 + 1, none⟩ = some (.int .i64 x.k.O) ∧ W.cell? ⟨b, off + k * 7 + 2, none⟩ = some (.int .i64 x.k.S) ∧ W.cell? ⟨b, off + k * 7 + 3, none⟩ = some (.int .i64 x.p) ∧ W.cell? ⟨b, off + k * 7 + 4, none⟩ = some (.int .i64 x.q) ∧ W.cell? ⟨b, off + k * 7 + 5, none⟩ = some (.int .i64 x.d) ∧ W.cell? ⟨b, off + k * 7 + 6, none⟩ = some (.int .i64 x.n) ∧ W.cell? ⟨b, off + p * 7, none⟩ = some (.int .i64 y.k.T) ∧ W.cell? ⟨b, off + p * 7 + 1, none⟩ = some (.int .i64 y.k.O) ∧ W.cell? ⟨b, off + p * 7 + 2, none⟩ = some (.int .i64 y.k.S) ∧ W.cell? ⟨b, off + p * 7 + 3, none⟩ = some (.int .i64 y.p) ∧ W.cell? ⟨b, off + p * 7 + 4, none⟩ = some (.int .i64 y.q) ∧ W.cell? ⟨b, off + p * 7 + 5, none⟩ = some (.int .i64 y.d) ∧ W.cell? ⟨b, off + p * 7 + 6, none⟩ = some (.int .i64 y.n)) ((refine HSS.out _ ?_; repeat (first | assumption | exact Nw.refl w3 | refine Nw.drew ?_ | refine Nw.alloc ?_ _))) (first
                    | (go_at_call 14; refine (KB.out _).mono ?_; rintro r w4 ⟨rfl, b4⟩; have i4 : Nw w3 w4 := Nw.step (by repeat (first | assumption | exact Nw.refl w3 | refine Nw.drew ?_ | refine Nw.alloc ?_ _)) b4))
                  case' _ => skip
                  rename_i hH
                  have H4 := Lib.hid (H3.out.step hH.1)
                  clear hH HSS KB hi0
                  go_wp2_with fail
                  go_roundw
                  case rel => exact ⟨k + 1, by omega, by go_num, H4⟩
                  case measure => simp [intOf]; omega
                · obtain rfl : k = 0 := by omega
                  have d0 : decide ((0 : Int) < (0 : Int)) = false := by decide
                  have ik2 : (0 : Int) < (n : Int) := by omega
                  simp only [Nat.zero_mul, Nat.add_zero] at z0 z1 z2 z3 z4 z5 z6
                  clear HSRT ik
                  go_quiet (fail)
                  go_wp2_with fail
                  go_roundw
                  case rel => exact ⟨1, by omega, by go_num, Lib.hid (H3.out.step (Below.many (Below.refl _ _) _))⟩
                  case measure => simp [intOf]; omega
              · obtain rfl : k = n := by omega
                have ik : ¬ (k : Int) < (k : Int) := by omega
                have kt := take_end w wr gB gR L k HT.out HN.out.symm
                have hit : itv It.zero false = .tuple #[.agg #[.int .i64 0, .int .i64 0, .int .i64 0, .int .i64 0, .int .i64 0, .int .i64 0, .int .i64 0], .bool false] := rfl
                rw [hit] at kt
                have KT := Lib.hid kt
                clear kt hit
                go_wp2_with fail
                refine KT.out.mono ?_
                rintro r w2 ⟨rfl, h2⟩
                have H2 := Lib.hid (h2.alloc (.cells #[.int .i64 0, .int .i64 0, .int .i64 0, .int .i64 0, .int .i64 0, .int .i64 0, .int .i64 0] 36))
                clear h2 hr0
                go_wp2_with fail
                refine (KK.out _).mono ?_
                rintro r w3 ⟨rfl, h3⟩
                have H3 := Lib.hid (H2.out.step h3)
                clear h3
                go_wp2_with fail
                go_ret
                exact ⟨rfl, H3.out⟩
end Go.Proofs.Ytghmldfllieonaa
