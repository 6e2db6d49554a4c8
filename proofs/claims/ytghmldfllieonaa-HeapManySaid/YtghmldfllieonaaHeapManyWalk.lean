/- Many items in a heap: the walk of the law. Helper. -/
import Derived.Test.YtghmldfllieonaaHeapKnown
namespace Go.Proofs.Ytghmldfllieonaa
open Go.RowKit
set_option linter.unusedVariables false
set_option linter.unusedSimpArgs false
/-- Items by a step between their times. -/
def row (s : Int) (n : Nat) : List It := (List.range n).map fun (j : Nat) => mk (s * (j : Int)) 1 (j : Int)
theorem row_length (s : Int) (n : Nat) : (row s n).length = n := by simp [row]
theorem row_succ (s : Int) (n : Nat) : row s (n + 1) = row s n ++ [mk (s * (n : Int)) 1 (n : Int)] := by simp [row, List.range_succ]
theorem row_mem (s : Int) (n : Nat) (x : It) : x ∈ row s n ↔ ∃ j, j < n ∧ mk (s * (j : Int)) 1 (j : Int) = x := by simp [row]
theorem row_in (s : Int) (n j : Nat) (h : j < n) : mk (s * (j : Int)) 1 (j : Int) ∈ row s n := (row_mem s n _).2 ⟨j, h, rfl⟩
theorem row_free (s : Int) (n k : Nat) (h : n ≤ k) (t : Int) : ∀ x ∈ row s n, ¬ (x.k.O = (mk t 1 (k : Int)).k.O ∧ x.n = (mk t 1 (k : Int)).n) := by
  intro x hx
  obtain ⟨j, hj, rfl⟩ := (row_mem s n x).1 hx
  rintro ⟨_, h2⟩
  simp [mk] at h2
  omega
theorem mk_less (a b : It) (t t' n n' : Int) (ha : a = mk t 1 n) (hb : b = mk t' 1 n') (h : t' < t ∨ t' = t ∧ n' ≤ n) : a.less b = false := by
  subst ha hb
  rw [← Bool.not_eq_true, It.less_iff]
  simp only [mk]
  omega
/-- What comes first and last. -/
def ends (s : Int) (n F L : Nat) : Prop := (s < 0 → F = n - 1 ∧ L = 0) ∧ (¬ s < 0 → F = 0 ∧ L = n - 1)
theorem ends_least {s : Int} {n F L : Nat} (h : ends s n F L) (hn : 0 < n) : F < n ∧ ∀ y ∈ row s n, y.less (mk (s * (F : Int)) 1 (F : Int)) = false := by
  by_cases hs : s < 0
  · obtain ⟨hF, _⟩ := h.1 hs
    refine ⟨by omega, fun y hy => ?_⟩
    obtain ⟨j, hj, rfl⟩ := (row_mem s n y).1 hy
    refine mk_less _ _ _ _ _ _ rfl rfl ?_
    by_cases e : j = F
    · subst e; right; omega
    · left
      exact Int.mul_lt_mul_of_neg_left (by omega) hs
  · obtain ⟨hF, _⟩ := h.2 hs
    refine ⟨by omega, fun y hy => ?_⟩
    obtain ⟨j, hj, rfl⟩ := (row_mem s n y).1 hy
    refine mk_less _ _ _ _ _ _ rfl rfl ?_
    have h0 : 0 ≤ s * (j : Int) := Int.mul_nonneg (by omega) (by omega)
    subst hF
    simp
    omega
theorem ends_most {s : Int} {n F L : Nat} (h : ends s n F L) (hn : 0 < n) : L < n ∧ ∀ y ∈ row s n, (mk (s * (L : Int)) 1 (L : Int)).less y = false := by
  by_cases hs : s < 0
  · obtain ⟨_, hL⟩ := h.1 hs
    refine ⟨by omega, fun y hy => ?_⟩
    obtain ⟨j, hj, rfl⟩ := (row_mem s n y).1 hy
    refine mk_less _ _ _ _ _ _ rfl rfl ?_
    by_cases e : j = 0
    · subst e; subst hL; right; omega
    · left
      subst hL
      exact Int.mul_lt_mul_of_neg_left (by omega) hs
  · obtain ⟨_, hL⟩ := h.2 hs
    refine ⟨by omega, fun y hy => ?_⟩
    obtain ⟨j, hj, rfl⟩ := (row_mem s n y).1 hy
    refine mk_less _ _ _ _ _ _ rfl rfl ?_
    have h0 : s * (j : Int) ≤ s * (L : Int) := Int.mul_le_mul_of_nonneg_left (by omega) (by omega)
    omega
theorem ends_ex (s : Int) (n : Nat) : ∃ F L, ends s n F L := by
  by_cases hs : s < 0
  · exact ⟨n - 1, 0, fun _ => ⟨rfl, rfl⟩, fun h => absurd hs h⟩
  · exact ⟨0, n - 1, fun h => absurd h hs, fun _ => ⟨rfl, rfl⟩⟩
set_option maxRecDepth 100000
set_option maxHeartbeats 1600000
theorem many_out (w : World) (many step : Int) (hout : many < 0 ∨ 1030 < many ∨ step < -100 ∨ 100 < step) : Calls Try.prog 4 #[.int .i64 many, .int .i64 step] w fun e w' => e = .returned (.bool true) ∧ Nw w w' := by
  have KK := Lib.hid (known_any w)
  by_cases h1 : many < 0
  · clear hout
    go_enter Try.func4, Try.ntmps4
    go_wp2_with fail
    refine KK.out.mono ?_
    rintro e w1 ⟨rfl, h1⟩
    go_wp2_with fail
    go_ret
    exact ⟨rfl, h1⟩
  · by_cases h2 : 1030 < many
    · clear hout
      go_enter Try.func4, Try.ntmps4
      go_wp2_with fail
      refine KK.out.mono ?_
      rintro e w1 ⟨rfl, h1⟩
      go_wp2_with fail
      go_ret
      exact ⟨rfl, h1⟩
    · by_cases h3 : step < -100
      · clear hout
        go_enter Try.func4, Try.ntmps4
        go_wp2_with fail
        refine KK.out.mono ?_
        rintro e w1 ⟨rfl, h1⟩
        go_wp2_with fail
        go_ret
        exact ⟨rfl, h1⟩
      · have h4 : 100 < step := by omega
        clear hout
        go_enter Try.func4, Try.ntmps4
        go_wp2_with fail
        refine KK.out.mono ?_
        rintro e w1 ⟨rfl, h1⟩
        go_wp2_with fail
        go_ret
        exact ⟨rfl, h1⟩
theorem many_in (w : World) (M : Nat) (step : Int) (hM : M ≤ 1030) (hs1 : -100 ≤ step) (hs2 : step ≤ 100) : Calls Try.prog 4 #[.int .i64 (M : Int), .int .i64 step] w fun e w' => e = .returned (.bool true) ∧ Nw w w' := by
  have KI := Lib.hid (fun t o s W => item_any t o s W)
  have KN := Lib.hid (new_in (UL []) w w (Nw.refl w) (fun k h => by simp [UL] at h))
  have KP := Lib.hid (fun W gB L (e : It) (h : HeapO (UL []) w W gB L) => put_in (UL []) w W gB L e h)
  have KF := Lib.hid (fun W gB L (e : It) (h : HeapO (UL []) w W gB L) => putFull_in (UL []) w W gB L e h)
  have KT := Lib.hid (fun W gB L (e x : It) (h : HeapO (UL []) w W gB L) => putTwice_in (UL []) w W gB L e x h)
  have KK := Lib.hid (fun W => known_any W)
  have g1 : ¬ (M : Int) < 0 := by omega
  have g2 : ¬ (1030 : Int) < (M : Int) := by omega
  have g3 : ¬ step < -100 := by omega
  have g4 : ¬ 100 < step := by omega
  have HB := Lib.hid (show M ≤ 1030 ∧ -100 ≤ step ∧ step ≤ 100 from ⟨hM, hs1, hs2⟩)
  go_enter Try.func4, Try.ntmps4
  go_wp2_with fail
  refine KN.out.mono ?_
  rintro e w1 ⟨gB, rfl, _, h1, _⟩
  have H1 := Lib.hid h1
  clear h1
  go_wp2_with fail
  go_loopw [6] (fun i wr => ∃ k : Nat, k ≤ M ∧ i = .int .i64 (k : Int) ∧ HeapO (UL []) w wr gB (row step (min k 1024))) (fun i _ => M - (intOf i).toNat)
  case atStart => exact ⟨0, by omega, rfl, H1.out⟩
  case round =>
    obtain ⟨k, hk, rfl, hp⟩ := hrel
    have HP := Lib.hid hp
    clear hp
    by_cases hlt : k < M
    · have i1 : (k : Int) < (M : Int) := by omega
      have hb1 : -103000 ≤ step * (k : Int) ∧ step * (k : Int) ≤ 103000 := by
        have h1 : step * (k : Int) ≤ 100 * (k : Int) := Int.mul_le_mul_of_nonneg_right hs2 (by omega)
        have h2 : (-100) * (k : Int) ≤ step * (k : Int) := Int.mul_le_mul_of_nonneg_right hs1 (by omega)
        omega
      have w1' : IntKind.i64.wrap (step * (k : Int)) = step * (k : Int) := IntWalk.i64_in (n := step * (k : Int)) (by constructor <;> omega)
      have hok : WOk (mk (step * (k : Int)) 1 (k : Int)) := mk_ok _ _ _ (by decide) (by constructor <;> omega)
      by_cases hful : k < 1024
      · have hmin : min k 1024 = k := by omega
        rw [hmin] at HP
        have KP2 := Lib.hid (fun W (h : HeapO (UL []) w W gB (row step k)) => KP.out W gB (row step k) (mk (step * (k : Int)) 1 (k : Int)) h hok (row_free step k k (Nat.le_refl _) _) (by rw [row_length]; omega))
        have HA := Lib.hid (show k < M ∧ k < 1024 from ⟨hlt, hful⟩)
        have d1 : decide ((k : Int) < 1024) = true := decide_eq_true (by omega)
        have d2 : (k : Int) < 1024 := by omega
        clear hok hmin hb1 hful hlt hk KP KF KT
        go_wp2_with fail
        refine (KI.out _ _ _ _).mono ?_
        rintro e w2 ⟨rfl, b2⟩
        have H2 := Lib.hid (HP.out.step b2)
        clear b2 HP
        go_wp2_with fail
        refine (KP2.out _ H2.out).mono ?_
        rintro e w3 ⟨rfl, h3, _⟩
        have H3 := Lib.hid h3
        clear h3 H2 KP2
        go_wp2_with fail
        go_roundw
        case rel => exact ⟨k + 1, HA.out.1, by go_num, by rw [show min (k + 1) 1024 = k + 1 by have := HA.out; omega, row_succ]; exact H3.out⟩
        case measure => have := HA.out; simp [intOf]; omega
      · have hmin : min k 1024 = 1024 := by omega
        rw [hmin] at HP
        have KF2 := Lib.hid (fun W (h : HeapO (UL []) w W gB (row step 1024)) => KF.out W gB (row step 1024) (mk (step * (k : Int)) 1 (k : Int)) h hok (row_free step 1024 k (by omega) _) (by rw [row_length]; omega))
        have HA := Lib.hid (show k < M ∧ ¬ k < 1024 from ⟨hlt, hful⟩)
        have d1 : decide ((k : Int) < 1024) = false := decide_eq_false (by omega)
        have d2 : ¬ (k : Int) < 1024 := by omega
        clear hok hmin hb1 hful hlt hk KP KF KT
        go_wp2_with fail
        refine (KI.out _ _ _ _).mono ?_
        rintro e w2 ⟨rfl, b2⟩
        have H2 := Lib.hid (HP.out.step b2)
        clear b2 HP
        go_wp2_with fail
        refine (KF2.out _ H2.out).mono ?_
        rintro e w3 ⟨rfl, h3, _⟩
        have H3 := Lib.hid h3
        clear h3 H2 KF2
        go_wp2_with fail
        go_roundw
        case rel => exact ⟨k + 1, HA.out.1, by go_num, by rw [show min (k + 1) 1024 = 1024 by have := HA.out; omega]; exact H3.out⟩
        case measure => have := HA.out; simp [intOf]; omega
    · obtain rfl : k = M := by omega
      obtain ⟨n, hn⟩ : ∃ n, min k 1024 = n := ⟨_, rfl⟩
      rw [hn] at HP
      have hmin : min ((k : Nat) : Int) 1024 = (n : Int) := by omega
      have HN := Lib.hid (show min k 1024 = n ∧ n ≤ 1024 from ⟨hn, by omega⟩)
      clear hn hlt hk
      by_cases hk0 : k = 0
      · have hn0 : n = 0 := by have := HN.out; omega
        have hk1 : ¬ (0 : Int) < (k : Int) := by omega
        have hmin0 : min (k : Int) 1024 = 0 := by omega
        rw [hn0, show row step 0 = [] from rfl] at HP
        clear hn0 hk0
        have KLe := Lib.hid (fun W (h : HeapO (UL []) w W gB []) => leastNo_in (UL []) w W gB h)
        have KMo := Lib.hid (fun bs W (h : HeapO (UL bs) w W gB []) => mostNo_in (UL bs) w W gB h)
        have hz : itv It.zero false = .tuple #[.agg #[.int .i64 0, .int .i64 0, .int .i64 0, .int .i64 0, .int .i64 0, .int .i64 0, .int .i64 0], .bool false] := rfl
        rw [hz] at KLe KMo
        have KLn := Lib.hid (fun bs W (h : HeapO (UL bs) w W gB []) => len_in (UL bs) w W gB [] h)
        have hl0 : (([] : List It).length : Int) = 0 := rfl
        clear hz KP KF KT hmin
        go_wp2_with fail
        refine (KLe.out _ HP.out).mono ?_
        rintro e w8 ⟨rfl, h8⟩
        have H8 := Lib.hid h8
        clear h8 HP
        obtain ⟨gx, hgx⟩ : ∃ gx, w8.heap.size = gx := ⟨_, rfl⟩
        obtain ⟨w9, hw9⟩ : ∃ w9, w8.alloc (.cells #[.int .i64 0, .int .i64 0, .int .i64 0, .int .i64 0, .int .i64 0, .int .i64 0, .int .i64 0] 36) = w9 := ⟨_, rfl⟩
        have hx := H8.out.1.box #[.int .i64 0, .int .i64 0, .int .i64 0, .int .i64 0, .int .i64 0, .int .i64 0, .int .i64 0]
        have hbx : Blk w9 gx 36 #[.int .i64 0, .int .i64 0, .int .i64 0, .int .i64 0, .int .i64 0, .int .i64 0, .int .i64 0] := by rw [← hw9]; exact Blk.last _ _ _ hgx
        rw [hw9, hgx] at hx
        have HX := Lib.hid (And.intro hgx hw9)
        have H9 := Lib.hid hx
        have BX9 := Lib.hid hbx
        clear hx hbx hgx hw9
        go_upto_region 14 with (fail)
        rw [HX.out.2, HX.out.1]
        clear H8 HX
        go_wp2_with fail
        refine (KMo.out _ _ H9.out).mono ?_
        rintro e w10 ⟨rfl, h10⟩
        have BX10 := Lib.hid (h10.keep BX9.out (by simp [UL]))
        have H10 := Lib.hid h10
        clear h10 H9 BX9
        obtain ⟨gy, hgy⟩ : ∃ gy, w10.heap.size = gy := ⟨_, rfl⟩
        obtain ⟨w11, hw11⟩ : ∃ w11, w10.alloc (.cells #[.int .i64 0, .int .i64 0, .int .i64 0, .int .i64 0, .int .i64 0, .int .i64 0, .int .i64 0] 36) = w11 := ⟨_, rfl⟩
        have hx := H10.out.1.box #[.int .i64 0, .int .i64 0, .int .i64 0, .int .i64 0, .int .i64 0, .int .i64 0, .int .i64 0]
        have hby : Blk w11 gy 36 #[.int .i64 0, .int .i64 0, .int .i64 0, .int .i64 0, .int .i64 0, .int .i64 0, .int .i64 0] := by rw [← hw11]; exact Blk.last _ _ _ hgy
        have cx : w11.cell? ⟨gx, 6, none⟩ = some (.int .i64 0) := ((show Blk w11 gx _ _ by rw [← hw11]; exact BX10.out.alloc _).cell 6).trans rfl
        have cy : w11.cell? ⟨gy, 6, none⟩ = some (.int .i64 0) := (hby.cell 6).trans rfl
        rw [hw11, hgy] at hx
        have HX := Lib.hid (And.intro hgy hw11)
        have H11 := Lib.hid hx
        clear hx hby hgy hw11
        go_upto_region 15 with (fail)
        rw [HX.out.2, HX.out.1]
        clear H10 HX BX10
        go_wp2_with fail
        refine (KLn.out _ _ H11.out).mono ?_
        rintro e w12 ⟨rfl, h12⟩
        rw [h12, hl0]
        clear h12 w12
        clear hl0 hs1 hs2 hM
        have hq0 : IntKind.i64.wrap (0 - 1) = -1 := by decide
        have hq1 : IntKind.i64.wrap (-1) = -1 := by decide
        have hq2 : max (-1 : Int) 0 = 0 := by decide
        by_cases hs : step < 0
        · go_wp2_with fail
          refine (KK.out _).mono ?_
          rintro e w13 ⟨rfl, h13⟩
          have N13 := Lib.hid (H11.out.nw.step h13)
          clear h13
          go_wp2_with fail
          go_ret
          exact ⟨rfl, N13.out⟩
        · go_wp2_with fail
          refine (KK.out _).mono ?_
          rintro e w13 ⟨rfl, h13⟩
          have N13 := Lib.hid (H11.out.nw.step h13)
          clear h13
          go_wp2_with fail
          go_ret
          exact ⟨rfl, N13.out⟩
      · have hn0 : 0 < n := by have := HN.out; omega
        obtain ⟨F, L, hE⟩ := ends_ex step n
        obtain ⟨hF1, hF2⟩ := ends_least hE hn0
        obtain ⟨hL1, hL2⟩ := ends_most hE hn0
        have KT2 := Lib.hid (fun W (h : HeapO (UL []) w W gB (row step n)) => KT.out W gB (row step n) (mk 0 1 0) (mk (step * ((0 : Nat) : Int)) 1 ((0 : Nat) : Int)) h (mk_ok _ _ _ (by decide) (by decide)) (row_in step n 0 hn0) rfl rfl)
        have kle := fun W (h : HeapO (UL []) w W gB (row step n)) => least_in (UL []) w W gB (row step n) (mk (step * (F : Int)) 1 (F : Int)) h (row_in step n F hF1) hF2 (by rw [row_length]; have := HN.out; omega)
        have kmo := fun bs W (h : HeapO (UL bs) w W gB (row step n)) => most_in (UL bs) w W gB (row step n) (mk (step * (L : Int)) 1 (L : Int)) h (row_in step n L hL1) hL2 (by rw [row_length]; have := HN.out; omega)
        rw [itv_mk] at kle kmo
        have KLe := Lib.hid kle
        have KMo := Lib.hid kmo
        have KLn := Lib.hid (fun bs W (h : HeapO (UL bs) w W gB (row step n)) => len_in (UL bs) w W gB (row step n) h)
        have hk1 : (0 : Int) < (k : Int) := by omega
        have hn1 : (0 : Int) < (n : Int) := by omega
        have hln : ((row step n).length : Int) = (n : Int) := by rw [row_length]
        have HE := Lib.hid hE
        obtain ⟨tF, htF⟩ : ∃ tF, step * (F : Int) = tF := ⟨_, rfl⟩
        obtain ⟨tL, htL⟩ : ∃ tL, step * (L : Int) = tL := ⟨_, rfl⟩
        rw [htF] at KLe
        rw [htL] at KMo
        have hnm : IntKind.i64.wrap ((n : Int) - 1) = (n : Int) - 1 := by have := HN.out; exact IntWalk.i64_in (n := (n : Int) - 1) (by constructor <;> omega)
        have hmx : max ((n : Int) - 1) 0 = (n : Int) - 1 := by omega
        clear hE hF1 hF2 hL1 hL2 kle kmo KP KF KT hk0 hn0 htF htL hnm hmx
        go_wp2_with fail
        refine (KI.out _ _ _ _).mono ?_
        rintro e w2 ⟨rfl, b2⟩
        have H2 := Lib.hid (HP.out.step b2)
        clear b2 HP
        go_wp2_with fail
        refine (KT2.out _ H2.out).mono ?_
        rintro e w3 ⟨rfl, h3, _⟩
        have H3 := Lib.hid h3
        clear h3 H2 KT2
        go_wp2_with fail
        refine (KLe.out _ H3.out).mono ?_
        rintro e w8 ⟨rfl, h8⟩
        have H8 := Lib.hid h8
        clear h8 H3
        obtain ⟨gx, hgx⟩ : ∃ gx, w8.heap.size = gx := ⟨_, rfl⟩
        obtain ⟨w9, hw9⟩ : ∃ w9, w8.alloc (.cells #[.int .i64 tF, .int .i64 1, .int .i64 0, .int .i64 0, .int .i64 0, .int .i64 0, .int .i64 (F : Int)] 36) = w9 := ⟨_, rfl⟩
        have hx := H8.out.1.box #[.int .i64 tF, .int .i64 1, .int .i64 0, .int .i64 0, .int .i64 0, .int .i64 0, .int .i64 (F : Int)]
        have hbx : Blk w9 gx 36 #[.int .i64 tF, .int .i64 1, .int .i64 0, .int .i64 0, .int .i64 0, .int .i64 0, .int .i64 (F : Int)] := by rw [← hw9]; exact Blk.last _ _ _ hgx
        rw [hw9, hgx] at hx
        have HX := Lib.hid (And.intro hgx hw9)
        have H9 := Lib.hid hx
        have BX9 := Lib.hid hbx
        clear hx hbx hgx hw9
        go_upto_region 14 with (fail)
        rw [HX.out.2, HX.out.1]
        clear H8 HX
        go_wp2_with fail
        refine (KMo.out _ _ H9.out).mono ?_
        rintro e w10 ⟨rfl, h10⟩
        have BX10 := Lib.hid (h10.keep BX9.out (by simp [UL]))
        have H10 := Lib.hid h10
        clear h10 H9 BX9
        obtain ⟨gy, hgy⟩ : ∃ gy, w10.heap.size = gy := ⟨_, rfl⟩
        obtain ⟨w11, hw11⟩ : ∃ w11, w10.alloc (.cells #[.int .i64 tL, .int .i64 1, .int .i64 0, .int .i64 0, .int .i64 0, .int .i64 0, .int .i64 (L : Int)] 36) = w11 := ⟨_, rfl⟩
        have hx := H10.out.1.box #[.int .i64 tL, .int .i64 1, .int .i64 0, .int .i64 0, .int .i64 0, .int .i64 0, .int .i64 (L : Int)]
        have hby : Blk w11 gy 36 #[.int .i64 tL, .int .i64 1, .int .i64 0, .int .i64 0, .int .i64 0, .int .i64 0, .int .i64 (L : Int)] := by rw [← hw11]; exact Blk.last _ _ _ hgy
        have cx : w11.cell? ⟨gx, 6, none⟩ = some (.int .i64 (F : Int)) := ((show Blk w11 gx _ _ by rw [← hw11]; exact BX10.out.alloc _).cell 6).trans rfl
        have cy : w11.cell? ⟨gy, 6, none⟩ = some (.int .i64 (L : Int)) := (hby.cell 6).trans rfl
        rw [hw11, hgy] at hx
        have HX := Lib.hid (And.intro hgy hw11)
        have H11 := Lib.hid hx
        clear hx hby hgy hw11
        go_upto_region 15 with (fail)
        rw [HX.out.2, HX.out.1]
        clear H10 HX BX10
        go_wp2_with fail
        refine (KLn.out _ _ H11.out).mono ?_
        rintro e w12 ⟨rfl, h12⟩
        rw [h12, hln]
        clear h12 w12
        clear hln hs1 hs2 hM hmin
        have hn3 : ¬ ((n : Int) = 0) := by omega
        by_cases hs : step < 0
        · have hF : (F : Int) = (n : Int) - 1 := by have := HE.out.1 hs; omega
          have hL : (L : Int) = 0 := by have := HE.out.1 hs; omega
          have hq : (n : Int) - 1 < 9223372036854775807 := by have := HN.out; omega
          have hq2 : IntKind.i64.wrap ((n : Int) - 1) = (n : Int) - 1 := by have := HN.out; exact IntWalk.i64_in (n := (n : Int) - 1) (by constructor <;> omega)
          have hq3 : max ((n : Int) - 1) 0 = (n : Int) - 1 := by omega
          rw [hF] at cx
          rw [hL] at cy
          clear hF hL
          go_wp2_with fail
          refine (KK.out _).mono ?_
          rintro e w13 ⟨rfl, h13⟩
          have N13 := Lib.hid (H11.out.nw.step h13)
          clear h13
          go_wp2_with fail
          go_ret
          exact ⟨rfl, N13.out⟩
        · have hF : (F : Int) = 0 := by have := HE.out.2 hs; omega
          have hL : (L : Int) = (n : Int) - 1 := by have := HE.out.2 hs; omega
          have hq2 : IntKind.i64.wrap ((n : Int) - 1) = (n : Int) - 1 := by have := HN.out; exact IntWalk.i64_in (n := (n : Int) - 1) (by constructor <;> omega)
          have hq3 : max ((n : Int) - 1) 0 = (n : Int) - 1 := by omega
          rw [hF] at cx
          rw [hL] at cy
          clear hF hL
          go_wp2_with fail
          refine (KK.out _).mono ?_
          rintro e w13 ⟨rfl, h13⟩
          have N13 := Lib.hid (H11.out.nw.step h13)
          clear h13
          go_wp2_with fail
          go_ret
          exact ⟨rfl, N13.out⟩
end Go.Proofs.Ytghmldfllieonaa
