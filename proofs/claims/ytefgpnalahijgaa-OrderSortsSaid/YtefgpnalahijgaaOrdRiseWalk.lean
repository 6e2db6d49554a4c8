/- OrderRises' walk. -/
import Derived.Test.YtefgpnalahijgaaOrdKnown
import Derived.Test.YtefgpnalahijgaaOrdTypes
namespace Go.Proofs.Ytefgpnalahijgaa
open Go.RowKit
set_option linter.unusedVariables false
set_option linter.unusedSimpArgs false
/-- Keys in an array. -/
def KysAt (w : World) (A : Option Addr) (n : Nat) (f : Nat → Ky) : Prop :=
  n = 0 ∨ ∃ b o, A = some ⟨b, o, none⟩ ∧ ∀ i, i < n → w.cell? ⟨b, o + i * 3, none⟩ = some (.int .i64 (f i).T) ∧ w.cell? ⟨b, o + i * 3 + 1, none⟩ = some (.int .i64 (f i).O) ∧ w.cell? ⟨b, o + i * 3 + 2, none⟩ = some (.int .i64 (f i).S)
theorem KysAt.keep {w w' : World} {A : Option Addr} {n : Nat} {f : Nat → Ky} (h : KysAt w A n f) (hB : Below w.heap.size w w') : KysAt w' A n f := by
  rcases h with rfl | ⟨b, o, rfl, h⟩
  · exact .inl rfl
  · have hN : Nw w w' := hB
    exact .inr ⟨b, o, rfl, fun i hi => ⟨hN.cell (h i hi).1, hN.cell (h i hi).2.1, hN.cell (h i hi).2.2⟩⟩
/-- Do keys 0 to k rise? -/
def riseN (f : Nat → Ky) : Nat → Bool
  | 0 => true
  | k + 1 => riseN f k && (f k).less (f (k + 1))
theorem riseN_false {f : Nat → Ky} {k : Nat} (h : riseN f k = false) : ∀ m, k ≤ m → riseN f m = false := by
  intro m hm
  induction m with
  | zero => obtain rfl : k = 0 := by omega
            exact h
  | succ m ih =>
    by_cases e : k = m + 1
    · subst e; exact h
    · show (riseN f m && _) = false
      rw [ih (by omega)]; rfl
set_option maxHeartbeats 1600000 in
set_option maxRecDepth 100000 in
theorem rising_any (A : Option Addr) (n : Nat) (f : Nat → Ky) (c : Nat) (w : World) (ha : KysAt w A n f) (hl : n ≤ 100) :
    Calls Try.prog 18 #[.slice A n c] w fun e w' => e = .returned (.bool (riseN f (n - 1))) ∧ Below w.heap.size w w' := by
  obtain ⟨R, hR⟩ : ∃ R, R = riseN f (n - 1) := ⟨_, rfl⟩
  rw [← hR]
  have HR := Lib.hid hR
  have HA := Lib.hid ha
  clear hR ha
  go_enter Try.func18, Try.ntmps18
  go_wp2
  go_loopw [3] (fun i wr => ∃ k : Nat, i = .int .i64 ((k : Int) + 1) ∧ (k + 1 ≤ n ∨ k = 0) ∧ riseN f k = true ∧ Below w.heap.size w wr) (fun i _ => n + 1 - (intOf i).toNat)
  case atStart => exact ⟨0, by simp, .inr rfl, rfl, Below.refl _ _⟩
  case round =>
    obtain ⟨k, rfl, hk, hu, hb⟩ := hrel
    by_cases hlt : k + 1 < n
    · have hfa := fun (h : (f k).less (f (k + 1)) = false) => riseN_false (f := f) (k := k + 1) (show (riseN f k && _) = false by rw [h, Bool.and_false]) (n - 1) (by omega)
      have htr := fun (h : (f k).less (f (k + 1)) = true) => show riseN f (k + 1) = true from (show (riseN f k && _) = true by rw [hu, h]; rfl)
      have KA := HA.out.keep hb
      rcases KA with h0 | ⟨b, o, rfl, hc⟩
      · omega
      · obtain ⟨c0, c1, c2⟩ := hc k (by omega)
        obtain ⟨d0, d1, d2⟩ := hc (k + 1) hlt
        have kl := Lib.hid (fun W => less_any (f k) (f (k + 1)) W)
        have hcl : decide ((f k).cmp (f (k + 1)) < 0) = true ↔ (f k).less (f (k + 1)) = true := by rw [decide_eq_true_eq]; exact Ky.cmp_neg (f k) (f (k + 1))
        obtain ⟨J, hJ⟩ : ∃ J, J = k + 1 := ⟨_, rfl⟩
        rw [← hJ] at d0 d1 d2 hfa htr kl hcl
        have HB := Lib.hid hb
        have HFA := Lib.hid hfa
        have HTR := Lib.hid htr
        have HCL := Lib.hid hcl
        have HJ := Lib.hid hJ
        have w0 : (k : Int) + 1 = (J : Int) := by omega
        have w1 : IntKind.i64.wrap ((J : Int) - 1) = (k : Int) := by rw [show ((J : Int) - 1) = (k : Int) by omega]; exact IntWalk.i64_in (n := (k : Int)) (by constructor <;> omega)
        have gJ : (J : Int) < (n : Int) := by omega
        have gk : (k : Int) < (n : Int) := by omega
        have gJ' : J ≤ 100 := by omega
        have gR : (f k).less (f J) = true → J + 1 ≤ n := fun _ => by omega
        have hss : ∀ W, Nw wr W → Nw wr W ∧ W.cell? ⟨b, o + k * 3, none⟩ = some (.int .i64 (f k).T) ∧ W.cell? ⟨b, o + k * 3 + 1, none⟩ = some (.int .i64 (f k).O) ∧ W.cell? ⟨b, o + k * 3 + 2, none⟩ = some (.int .i64 (f k).S) ∧ W.cell? ⟨b, o + J * 3, none⟩ = some (.int .i64 (f J).T) ∧ W.cell? ⟨b, o + J * 3 + 1, none⟩ = some (.int .i64 (f J).O) ∧ W.cell? ⟨b, o + J * 3 + 2, none⟩ = some (.int .i64 (f J).S) := fun W h => ⟨h, h.cell c0, h.cell c1, h.cell c2, h.cell d0, h.cell d1, h.cell d2⟩
        have HSS := Lib.hid hss
        have j0 : Nw wr wr.drew := (Nw.refl wr).drew
        rw [w0]
        clear hJ w0 hss hc c0 c1 c2 d0 d1 d2 hb hfa htr hcl hu hk
        generalize decide ((f k).cmp (f J) < 0) = C at *
        go_wp2_with fail
        go_region_held3 (fun W => Nw wr W ∧ W.cell? ⟨b, o + k * 3, none⟩ = some (.int .i64 (f k).T) ∧ W.cell? ⟨b, o + k * 3 + 1, none⟩ = some (.int .i64 (f k).O) ∧ W.cell? ⟨b, o + k * 3 + 2, none⟩ = some (.int .i64 (f k).S) ∧ W.cell? ⟨b, o + J * 3, none⟩ = some (.int .i64 (f J).T) ∧ W.cell? ⟨b, o + J * 3 + 1, none⟩ = some (.int .i64 (f J).O) ∧ W.cell? ⟨b, o + J * 3 + 2, none⟩ = some (.int .i64 (f J).S)) ((refine HSS.out _ ?_; repeat (first | assumption | exact Nw.refl wr | refine Nw.drew ?_ | refine Nw.alloc ?_ _))) (first
          | (go_at_call 9; refine (kl.out _).mono ?_; rintro e w1 ⟨rfl, b1⟩; have i1 := Nw.step (by assumption) b1))
        rename_i hH
        have hN := hH.1
        clear hH
        have hB2 : Below w.heap.size w w1 := Below.trans HB.out (hN.mono HB.out.size)
        cases C with
        | true =>
          have hl := HCL.out.1 rfl
          have hrs := HTR.out hl
          go_wp2_with fail
          go_roundw
          case rel => exact ⟨J, by go_num, by omega, hrs, hB2⟩
          case measure => simp [intOf]; omega
        | false =>
          have hl : (f k).less (f J) = false := by rw [← Bool.not_eq_true]; exact fun h => by cases HCL.out.2 h
          have hrs := HFA.out hl
          go_wp2_with fail
          go_ret
          exact ⟨ret_bool (by rw [HR.out, hrs]), hB2⟩
    · have hkn : n - 1 = k := by omega
      rw [← hkn] at hu
      go_wp2
      go_ret
      exact ⟨ret_bool (by rw [HR.out, hu]), hb⟩
theorem rises_many (A : Option Addr) (n c : Nat) (w : World) (h : 100 < n) (hm : n ≤ maxLen) :
    Calls Try.prog 6 #[.slice A n c] w fun e w' => e = .returned (.bool true) ∧ Below w.heap.size w w' := by
  unfold maxLen at hm
  have g : (100 : Int) < (n : Int) := by omega
  have k := Lib.hid (fun W => known_any W)
  go_enter Try.func6, Try.ntmps6
  go_wp2_with fail
  refine (k.out _).mono ?_
  rintro e w1 ⟨rfl, b1⟩
  go_wp2_with fail
  go_ret
  exact ⟨rfl, b1⟩
set_option maxHeartbeats 1600000 in
set_option maxRecDepth 100000 in
theorem rises_few (A : Option Addr) (n : Nat) (f : Nat → Ky) (c : Nat) (w : World) (ha : KysAt w A n f) (hl : n ≤ 100) :
    Calls Try.prog 6 #[.slice A n c] w fun e w' => e = .returned (.bool true) ∧ Below w.heap.size w w' := by
  have HA := Lib.hid ha
  clear ha
  have g : ¬ (100 : Int) < (n : Int) := by omega
  have kr := Lib.hid (fun W h => rising_any A n f c W h hl)
  have kn := Lib.hid (fun W => known_any W)
  go_enter Try.func6, Try.ntmps6
  go_wp2
  go_loopw [3, 4] (fun r i wr => ∃ k : Nat, r = .bool (riseN f k) ∧ i = .int .i64 ((k : Int) + 1) ∧ (k + 1 ≤ n ∨ k = 0) ∧ Below w.heap.size w wr) (fun _ i _ => n + 1 - (intOf i).toNat)
  case atStart => exact ⟨0, rfl, by simp, .inr rfl, Below.refl _ _⟩
  case round =>
    obtain ⟨k, rfl, rfl, hk, hb⟩ := hrel
    by_cases hlt : k + 1 < n
    · have hst : riseN f (k + 1) = (riseN f k && (f k).less (f (k + 1))) := rfl
      have KA := HA.out.keep hb
      rcases KA with h0 | ⟨b, o, rfl, hc⟩
      · omega
      · obtain ⟨c0, c1, c2⟩ := hc k (by omega)
        obtain ⟨d0, d1, d2⟩ := hc (k + 1) hlt
        have kl := Lib.hid (fun W => refLess_any (f k) (f (k + 1)) W)
        obtain ⟨J, hJ⟩ : ∃ J, J = k + 1 := ⟨_, rfl⟩
        rw [← hJ] at d0 d1 d2 kl hst
        have HB := Lib.hid hb
        have HST := Lib.hid hst
        have w0 : (k : Int) + 1 = (J : Int) := by omega
        have w1 : IntKind.i64.wrap ((J : Int) - 1) = (k : Int) := by rw [show ((J : Int) - 1) = (k : Int) by omega]; exact IntWalk.i64_in (n := (k : Int)) (by constructor <;> omega)
        have gJ : (J : Int) < (n : Int) := by omega
        have gk : (k : Int) < (n : Int) := by omega
        have gJ' : J ≤ 100 := by omega
        have gJn : J + 1 ≤ n := by omega
        have hss : ∀ W, Nw wr W → Nw wr W ∧ W.cell? ⟨b, o + k * 3, none⟩ = some (.int .i64 (f k).T) ∧ W.cell? ⟨b, o + k * 3 + 1, none⟩ = some (.int .i64 (f k).O) ∧ W.cell? ⟨b, o + k * 3 + 2, none⟩ = some (.int .i64 (f k).S) ∧ W.cell? ⟨b, o + J * 3, none⟩ = some (.int .i64 (f J).T) ∧ W.cell? ⟨b, o + J * 3 + 1, none⟩ = some (.int .i64 (f J).O) ∧ W.cell? ⟨b, o + J * 3 + 2, none⟩ = some (.int .i64 (f J).S) := fun W h => ⟨h, h.cell c0, h.cell c1, h.cell c2, h.cell d0, h.cell d1, h.cell d2⟩
        have HSS := Lib.hid hss
        have j0 : Nw wr wr.drew := (Nw.refl wr).drew
        rw [w0]
        clear hJ w0 hss hc c0 c1 c2 d0 d1 d2 hb hk hst
        generalize riseN f k = R at *
        cases R with
        | true =>
          go_wp2_with fail
          go_region_held3 (fun W => Nw wr W ∧ W.cell? ⟨b, o + k * 3, none⟩ = some (.int .i64 (f k).T) ∧ W.cell? ⟨b, o + k * 3 + 1, none⟩ = some (.int .i64 (f k).O) ∧ W.cell? ⟨b, o + k * 3 + 2, none⟩ = some (.int .i64 (f k).S) ∧ W.cell? ⟨b, o + J * 3, none⟩ = some (.int .i64 (f J).T) ∧ W.cell? ⟨b, o + J * 3 + 1, none⟩ = some (.int .i64 (f J).O) ∧ W.cell? ⟨b, o + J * 3 + 2, none⟩ = some (.int .i64 (f J).S)) ((refine HSS.out _ ?_; repeat (first | assumption | exact Nw.refl wr | refine Nw.drew ?_ | refine Nw.alloc ?_ _))) (first
            | (go_at_call 7; refine (kl.out _).mono ?_; rintro e w1 ⟨rfl, b1⟩; have i1 := Nw.step (by assumption) b1))
          rename_i hH
          have hN := hH.1
          clear hH
          have hB2 : Below w.heap.size w w1 := Below.trans HB.out (hN.mono HB.out.size)
          go_wp2_with fail
          go_roundw
          case rel => exact ⟨J, by rw [HST.out]; rfl, by go_num, by omega, hB2⟩
          case measure => simp [intOf]; omega
        | false =>
          go_wp2_with fail
          go_quiet (fail)
          go_wp2_with fail
          go_roundw
          case rel => exact ⟨J, by rw [HST.out]; rfl, by go_num, by omega, Below.many HB.out _⟩
          case measure => simp [intOf]; omega
    · have hkn : n - 1 = k := by omega
      rw [hkn] at kr
      have HB := Lib.hid hb
      have kr2 := Lib.hid (kr.out wr (HA.out.keep hb))
      generalize riseN f k = R at *
      clear hb
      go_wp2_with fail
      refine kr2.out.mono ?_
      rintro e w1 ⟨rfl, b1⟩
      have hB1 : Below w.heap.size w w1 := Below.trans HB.out (b1.mono HB.out.size)
      clear b1
      go_wp2_with fail
      refine (kn.out _).mono ?_
      rintro e w2 ⟨rfl, b2⟩
      have hB2 : Below w.heap.size w w2 := Below.trans hB1 (b2.mono hB1.size)
      clear b2 hB1
      go_wp2_with fail
      go_ret
      exact ⟨rfl, hB2⟩
end Go.Proofs.Ytefgpnalahijgaa
