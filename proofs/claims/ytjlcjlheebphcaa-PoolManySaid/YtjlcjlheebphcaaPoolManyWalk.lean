/- Pools of many messages: the walk of the law. Helper. -/
import Derived.Test.YtjlcjlheebphcaaPoolList
import Derived.Lib.MinMax
namespace Go.Proofs.Ytjlcjlheebphcaa
open Go.RowKit
set_option linter.unusedVariables false
set_option linter.unusedSimpArgs false
/-- 0, 1, .. -/
def upl (n : Nat) : List Int := (List.range n).map fun (j : Nat) => (j : Int)
theorem upl_length (n : Nat) : (upl n).length = n := by simp [upl]
theorem upl_succ (n : Nat) : upl (n + 1) = upl n ++ [(n : Int)] := by simp [upl, List.range_succ]
theorem upl_get (n i : Nat) (h : i < (upl n).length) : (upl n)[i] = (i : Int) := by simp [upl]
/-- A pool of one's own. -/
def PoolIn (w W : World) (g : Nat) (L : List Int) (k : Int) : Prop :=
  ∃ blk, PoolAt W g L k blk ∧ Nw w W ∧ w.heap.size ≤ g ∧ ∀ b, blk = some b → w.heap.size ≤ b
theorem PoolIn.step {w W W' : World} {g : Nat} {L : List Int} {k : Int} (h : PoolIn w W g L k) (hB : Below W.heap.size W W') : PoolIn w W' g L k := by
  obtain ⟨blk, ⟨v, hb, ho⟩, hn, hg, hl⟩ := h
  exact ⟨blk, ⟨v, hb.below hB hb.lt, ho.kept fun g' hg' => hB.block g' (ho.lt g' hg')⟩, hn.step hB, hg, hl⟩
theorem PoolIn.nw {w W : World} {g : Nat} {L : List Int} {k : Int} (h : PoolIn w W g L k) : Nw w W := h.choose_spec.2.1
theorem PoolIn.turn {w W W' : World} {g : Nat} {L' : List Int} {k' : Int} {blk blk' : Option Nat} (hn : Nw w W) (hg : w.heap.size ≤ g) (hl : ∀ b, blk = some b → w.heap.size ≤ b) (hp : PoolAt W' g L' k' blk') (hc : Chg (PTurn g blk) W W')
    (hb : blk' = blk ∨ ∃ b, blk' = some b ∧ W.heap.size ≤ b) : PoolIn w W' g L' k' := by
  refine ⟨blk', hp, Below.trans hn (hc.below (fun i _ h => ?_) hn.size), hg, ?_⟩
  · rcases h with rfl | h
    · exact hg
    · exact hl _ h.symm
  · intro b e
    rcases hb with h | ⟨b', h, h2⟩
    · exact hl b (by rw [← h]; exact e)
    · rw [h] at e; injection e with e; have := hn.size; omega
section
variable (w : World)
set_option maxRecDepth 100000
set_option maxHeartbeats 1600000
theorem new_in (W : World) (hn : Nw w W) : Calls Try.prog 5 #[] W fun e w' => ∃ g, e = .returned (.pointer (some ⟨g, 0, none⟩)) ∧ PoolIn w w' g [] 0 :=
  (new_any W).mono fun e w' ⟨g, he, hg, hb, hp⟩ => ⟨g, he, none, hp, hn.step hb, Nat.le_trans hn.size hg, fun b h => by cases h⟩
theorem put_in (W : World) (g : Nat) (L : List Int) (k : Int) (h : PoolIn w W g L k) (hl : L.length < 131072) (hk : 0 ≤ k ∧ k ≤ 4294967295) (i : Int) :
    Calls Try.prog 6 #[.pointer (some ⟨g, 0, none⟩), .agg #[.int .i64 0, .int .i64 0, .int .i64 0, .int .i64 0, .int .i64 0, .int .i64 0, .int .i64 i, .bool false, .bool false, .int .i64 0]] W fun e w' => e = .returned (.tuple #[.int .i64 k, .int .i64 0]) ∧ PoolIn w w' g (L ++ [i]) (k + 1) := by
  obtain ⟨blk, hp, hn, hg, hb⟩ := h
  exact (put_any g L k blk W hp hl hk i).mono fun e w' ⟨he, blk', hp', hc, hb'⟩ => ⟨he, PoolIn.turn hn hg hb hp' hc hb'⟩
theorem put_in2 (W0 W : World) (g : Nat) (L : List Int) (k : Int) (h : PoolIn w W0 g L k) (hB : Below W0.heap.size W0 W) (hl : L.length < 131072) (hk : 0 ≤ k ∧ k ≤ 4294967295) (i : Int) :
    Calls Try.prog 6 #[.pointer (some ⟨g, 0, none⟩), .agg #[.int .i64 0, .int .i64 0, .int .i64 0, .int .i64 0, .int .i64 0, .int .i64 0, .int .i64 i, .bool false, .bool false, .int .i64 0]] W fun e w' => e = .returned (.tuple #[.int .i64 k, .int .i64 0]) ∧ PoolIn w w' g (L ++ [i]) (k + 1) ∧ ∀ j, W0.heap.size ≤ j → j < W.heap.size → w'.heap[j]? = W.heap[j]? := by
  have hp0 := h.step hB
  obtain ⟨blk, hp, hn, hg, hb⟩ := h
  obtain ⟨v, hbk, ho⟩ := hp
  have hp2 : PoolAt W g L k blk := ⟨v, hbk.below hB hbk.lt, ho.kept fun g' hg' => hB.block g' (ho.lt g' hg')⟩
  exact (put_any g L k blk W hp2 hl hk i).mono fun e w' ⟨he, blk', hp', hc, hb'⟩ => ⟨he, PoolIn.turn (hn.step hB) hg hb hp' hc hb', fun j h1 h2 => hc.block j h2 (fun h => by
    rcases h with h | h
    · have := hbk.lt; omega
    · have := ho.lt j h.symm; omega)⟩
theorem len_in (W : World) (g : Nat) (L : List Int) (k : Int) (h : PoolIn w W g L k) : Calls Try.prog 8 #[.pointer (some ⟨g, 0, none⟩)] W fun e w' => e = .returned (.int .i64 (L.length : Int)) ∧ w' = W := by
  obtain ⟨blk, hp, _⟩ := h
  exact len_any g L k blk W hp
theorem putFull_in (W : World) (g : Nat) (L : List Int) (k : Int) (h : PoolIn w W g L k) (hl : 131072 ≤ L.length) (i : Int) :
    Calls Try.prog 6 #[.pointer (some ⟨g, 0, none⟩), .agg #[.int .i64 0, .int .i64 0, .int .i64 0, .int .i64 0, .int .i64 0, .int .i64 0, .int .i64 i, .bool false, .bool false, .int .i64 0]] W fun e w' => e = .returned (.tuple #[.int .i64 0, .int .i64 5]) ∧ PoolIn w w' g L k := by
  obtain ⟨blk, hp, hn, hg, hb⟩ := h
  exact (put_full g L k blk W hp hl i).mono fun e w' ⟨he, hb'⟩ => ⟨he, PoolIn.step ⟨blk, hp, hn, hg, hb⟩ hb'⟩
theorem take_in (W : World) (g : Nat) (L : List Int) (k : Int) (i : Nat) (h : PoolIn w W g L k) (hi : i + 1 < L.length) (hn : L.length ≤ 1000000) (x : Int) (hx : L[i] = x) :
    Calls Try.prog 7 #[.pointer (some ⟨g, 0, none⟩), .int .i64 i] W fun e w' => e = .returned (.tuple #[.agg #[.int .i64 0, .int .i64 0, .int .i64 0, .int .i64 0, .int .i64 0, .int .i64 0, .int .i64 x, .bool false, .bool false, .int .i64 0], .int .i64 0]) ∧ PoolIn w w' g (L.take i ++ L.drop (i + 1)) k := by
  obtain ⟨blk, hp, hnn, hg, hb⟩ := h
  subst hx
  exact (take_any g L k blk i W hp hi hn).mono fun e w' ⟨he, hp', hc⟩ => ⟨he, PoolIn.turn hnn hg hb hp' hc (.inl rfl)⟩
theorem known_any : Calls Try.prog 4 #[] w fun e w' => e = .returned (.bool true) ∧ Nw w w' := by
  have KN := Lib.hid (fun W (h : Nw w W) => new_in w W h)
  have KP := Lib.hid (fun W g L k (h : PoolIn w W g L k) => put_in w W g L k h)
  have KT := Lib.hid (fun W g (h : PoolIn w W g [0, 1, 2] 3) => take_in w W g [0, 1, 2] 3 1 h (by simp) (by simp) 1 rfl)
  have KL := Lib.hid (fun g blk W (h : PoolAt W g [0, 2] 3 blk) => list_any g [0, 2] 3 blk W h (by simp) (by simp))
  go_enter Try.func4, Try.ntmps4
  go_wp2_with fail
  refine (KN.out _ (Nw.refl w)).mono ?_
  rintro e w1 ⟨g, rfl, h1⟩
  have H1 := Lib.hid h1
  clear h1
  go_wp2_with fail
  go_loopw [2] (fun i wr => ∃ k : Nat, k ≤ 3 ∧ i = .int .i64 k ∧ PoolIn w wr g (upl k) k) (fun i _ => 3 - (intOf i).toNat)
  case atStart => exact ⟨0, by omega, rfl, H1.out⟩
  case round =>
    obtain ⟨k, hk, rfl, hp⟩ := hrel
    have HP := Lib.hid hp
    clear hp
    by_cases hlt : k < 3
    · have i1 : (k : Int) < 3 := by omega
      go_wp2_with fail
      refine (KP.out _ _ _ _ HP.out (by rw [upl_length]; omega) (by omega) _).mono ?_
      rintro e w2 ⟨rfl, h2⟩
      have H2 := Lib.hid h2
      clear h2 HP
      go_wp2_with fail
      go_roundw
      case rel => exact ⟨k + 1, by omega, by simp, by rw [upl_succ]; exact H2.out⟩
      case measure => simp [intOf]; omega
    · obtain rfl : k = 3 := by omega
      go_wp2_with fail
      refine (KT.out _ _ HP.out).mono ?_
      rintro e w2 ⟨rfl, h2⟩
      have H2 := Lib.hid h2
      clear h2 HP
      go_wp2_with fail
      obtain ⟨blk, hp3, hn3, hg3, hb3⟩ := (H2.out.step ((Below.refl _ _).alloc (Nat.le_refl _) (.cells #[.int .i64 0, .int .i64 0, .int .i64 0, .int .i64 0, .int .i64 0, .int .i64 0, .int .i64 1, .bool false, .bool false, .int .i64 0] 33)))
      refine (KL.out _ _ _ hp3).mono ?_
      rintro e w4 ⟨v, rfl, hv, hn4⟩
      obtain ⟨A, c, rfl, hr, hc, _⟩ := Rd.of_own hv
      obtain ⟨b, off, rfl, hb, hcell⟩ := hr.get (k := 0) (by rw [cellsL_length]; decide)
      have c6 : w4.cell? ⟨b, off + 6, none⟩ = some (.int .i64 0) := hcell 6 _ rfl
      have c16 : w4.cell? ⟨b, off + 10 + 6, none⟩ = some (.int .i64 2) := hcell 16 _ rfl
      have hm : Blk w4 w2.heap.size 33 #[.int .i64 0, .int .i64 0, .int .i64 0, .int .i64 0, .int .i64 0, .int .i64 0, .int .i64 1, .bool false, .bool false, .int .i64 0] := (Blk.last w2 33 #[.int .i64 0, .int .i64 0, .int .i64 0, .int .i64 0, .int .i64 0, .int .i64 0, .int .i64 1, .bool false, .bool false, .int .i64 0] rfl).below hn4 (by simp)
      have m6 : w4.cell? ⟨w2.heap.size, 6, none⟩ = some (.int .i64 1) := (hm.cell 6).trans rfl
      have N4 := Lib.hid (hn3.step hn4)
      have hc2 : 2 ≤ c := hc
      clear hm hv hr hcell hn4 hp3 hn3 hg3 hb3 hb hc H2
      go_wp2_with fail
      go_ret
      exact ⟨rfl, N4.out⟩
theorem many_any (many : Int) (hm : -9223372036854775808 ≤ many ∧ many ≤ 9223372036854775807) : Calls Try.prog 3 #[.int .i64 many] w fun e w' => e = .returned (.bool true) ∧ Nw w w' := by
  have KN := Lib.hid (fun W (h : Nw w W) => new_in w W h)
  have KP := Lib.hid (fun W g L k (h : PoolIn w W g L k) => put_in w W g L k h)
  have KF := Lib.hid (fun W g L k (h : PoolIn w W g L k) => putFull_in w W g L k h)
  have KT := Lib.hid (fun W g L k (h : PoolIn w W g L k) => take_in w W g L k 5 h)
  have KP2 := Lib.hid (fun W0 W g L k (h : PoolIn w W0 g L k) => put_in2 w W0 W g L k h)
  have KL := Lib.hid (fun W g L k (h : PoolIn w W g L k) => len_in w W g L k h)
  have KK := Lib.hid (fun W => known_any W)
  by_cases hin : many < 131070 ∨ 131075 < many
  · have K1 : Hid (∀ W, Nw w W → Calls Try.prog 4 #[] W fun e w' => e = .returned (.bool true) ∧ Nw w w') := Lib.hid fun W h => (KK.out W).mono fun e w' ⟨he, h2⟩ => ⟨he, h.step h2⟩
    clear KN KP KF KT KK KP2 KL
    rcases hin with h | h
    · go_enter Try.func3, Try.ntmps3
      go_wp2_with fail
      refine (K1.out _ (Nw.refl w)).mono ?_
      rintro e w1 ⟨rfl, h1⟩
      go_wp2_with fail
      go_ret
      exact ⟨rfl, h1⟩
    · have h2 : ¬ many < 131070 := by omega
      go_enter Try.func3, Try.ntmps3
      go_wp2_with fail
      refine (K1.out _ (Nw.refl w)).mono ?_
      rintro e w1 ⟨rfl, h1⟩
      go_wp2_with fail
      go_ret
      exact ⟨rfl, h1⟩
  · obtain ⟨M, rfl⟩ : ∃ M : Nat, many = (M : Int) := ⟨many.toNat, by omega⟩
    have h1 : ¬ (M : Int) < 131070 := by omega
    have h2 : ¬ 131075 < (M : Int) := by omega
    have hM1 : 131070 ≤ M := by omega
    have hM2 : M ≤ 131075 := by omega
    have HM := Lib.hid (show 131070 ≤ M ∧ M ≤ 131075 from ⟨hM1, hM2⟩)
    clear hin hm hM1 hM2
    go_enter Try.func3, Try.ntmps3
    go_wp2_with fail
    refine (KN.out _ (Nw.refl w)).mono ?_
    rintro e w1 ⟨g, rfl, h1⟩
    have H1 := Lib.hid h1
    clear h1
    go_wp2_with fail
    go_loopw [4] (fun i wr => ∃ k : Nat, k ≤ M ∧ i = .int .i64 k ∧ PoolIn w wr g (upl (min k 131072)) (min k 131072 : Nat)) (fun i _ => M - (intOf i).toNat)
    case atStart => exact ⟨0, by omega, rfl, H1.out⟩
    case round =>
      obtain ⟨k, hk, rfl, hp⟩ := hrel
      have HP := Lib.hid hp
      clear hp
      by_cases hlt : k < M
      · have i1 : (k : Int) < M := by omega
        by_cases hful : k < 131072
        · have i2 : (k : Int) < 131072 := by omega
          have hmin : min k 131072 = k := by omega
          rw [hmin] at HP
          go_wp2_with fail
          refine (KP.out _ _ _ _ HP.out (by rw [upl_length]; omega) (by omega) _).mono ?_
          rintro e w2 ⟨rfl, h2⟩
          have H2 := Lib.hid h2
          have HA := Lib.hid hful
          have HB := Lib.hid hlt
          have HC := Lib.hid hk
          have d1 : decide ((k : Int) < 131072) = true := decide_eq_true i2
          have d2 : decide ((131072 : Int) ≤ (k : Int)) = false := decide_eq_false (by omega)
          have HI1 := Lib.hid i1
          clear HP hmin hful hlt hk i1 i2 h1
          clear h2
          have kb : (k : Int) < 9223372036854775807 := by have := HA.out; omega
          go_wp2_with fail
          go_roundw
          case rel => exact ⟨k + 1, HB.out, by simp, by rw [show min (k + 1) 131072 = k + 1 by have := HA.out; omega, upl_succ]; exact H2.out⟩
          case measure => have := HB.out; simp [intOf]; omega
        · have i2 : ¬ (k : Int) < 131072 := by omega
          have i3 : (131072 : Int) ≤ k := by omega
          have hmin : min k 131072 = 131072 := by omega
          rw [hmin] at HP
          go_wp2_with fail
          refine (KF.out _ _ _ _ HP.out (by rw [upl_length]; exact Nat.le_refl _) _).mono ?_
          rintro e w2 ⟨rfl, h2⟩
          have H2 := Lib.hid h2
          have HA := Lib.hid hful
          have HB := Lib.hid hlt
          have HC := Lib.hid hk
          have d1 : decide ((k : Int) < 131072) = false := decide_eq_false (by omega)
          have d2 : decide ((131072 : Int) ≤ (k : Int)) = true := decide_eq_true (by omega)
          have HI1 := Lib.hid i1
          have kb : (k : Int) < 9223372036854775807 := by have := HM.out; omega
          clear HP hmin hful hlt hk i1 i2 i3 h1
          clear h2
          go_wp2_with fail
          go_roundw
          case rel => exact ⟨k + 1, HB.out, by simp, by rw [show min (k + 1) 131072 = 131072 by have := HA.out; omega]; exact H2.out⟩
          case measure => have := HB.out; simp [intOf]; omega
      · obtain rfl : k = M := by omega
        have e3 : ((k : Nat) : Int) < 9223372036854775807 := by have := HM.out; omega
        obtain ⟨n0, hn0⟩ : ∃ n0, min k 131072 = n0 := ⟨_, rfl⟩
        rw [hn0] at HP
        have hb0 : 131070 ≤ n0 ∧ n0 ≤ 131072 := by have := HM.out; omega
        have HB0 := Lib.hid hb0
        have HN0 := Lib.hid hn0
        clear hk hlt hn0 hb0 h1 h2
        go_wp2_with fail
        refine (KT.out _ _ _ _ HP.out (by rw [upl_length]; have := HB0.out; omega) (by rw [upl_length]; have := HB0.out; omega) 5 (upl_get _ _ _)).mono ?_
        rintro e w2 ⟨rfl, h2⟩
        have hlen : ((upl n0).take 5 ++ (upl n0).drop (5 + 1)).length = n0 - 1 := by rw [List.length_append, List.length_take, List.length_drop, upl_length]; have := HB0.out; omega
        have H2 := Lib.hid h2
        have HLEN := Lib.hid hlen
        clear h2 hlen
        go_wp2_with fail
        refine (KP2.out _ _ _ _ _ H2.out ((Below.refl _ _).alloc (Nat.le_refl _) _) (by rw [HLEN.out]; have := HB0.out; omega) (by have := HB0.out; omega) _).mono ?_
        rintro e w3 ⟨rfl, h3, hj⟩
        have hlt3 : w2.heap.size < (w2.alloc (.cells #[.int .i64 0, .int .i64 0, .int .i64 0, .int .i64 0, .int .i64 0, .int .i64 0, .int .i64 5, .bool false, .bool false, .int .i64 0] 33)).heap.size := by simp
        have hm : Blk w3 w2.heap.size 33 #[.int .i64 0, .int .i64 0, .int .i64 0, .int .i64 0, .int .i64 0, .int .i64 0, .int .i64 5, .bool false, .bool false, .int .i64 0] := (hj _ (Nat.le_refl _) hlt3).trans (Blk.last w2 33 _ rfl)
        have m6 : w3.cell? ⟨w2.heap.size, 6, none⟩ = some (.int .i64 5) := (hm.cell 6).trans rfl
        have hlen3 : (((upl n0).take 5 ++ (upl n0).drop (5 + 1)) ++ [(0 : Int)]).length = n0 := by rw [List.length_append, HLEN.out]; have := HB0.out; simp; omega
        have HLEN3 := Lib.hid hlen3
        have H3 := Lib.hid h3
        clear h3 hj hlt3 hm hlen3
        go_wp2_with fail
        refine (KL.out _ _ _ _ H3.out).mono ?_
        rintro e w4 ⟨rfl, h4⟩
        rw [h4, HLEN3.out]
        clear h4 w4
        have hmin : min ((k : Nat) : Int) 131072 = (n0 : Int) := by have := HN0.out; omega
        clear KN KP KF KT KP2 KL e3
        go_wp2_with fail
        refine (KK.out _).mono ?_
        rintro e w5 ⟨rfl, h5⟩
        have N5 := Lib.hid (H3.out.nw.step h5)
        clear h5
        go_wp2_with fail
        go_ret
        exact ⟨rfl, N5.out⟩
end
end Go.Proofs.Ytjlcjlheebphcaa
