/- Ranges of events change places; two ranges are turned. Helper. -/
import Derived.Test.YtefgpnalahijgaaOrdMerge
import Derived.Test.YtefgpnalahijgaaOrdIns
import Derived.Test.YtefgpnalahijgaaOrdSwap2
namespace Go.Proofs.Ytefgpnalahijgaa
open Go.RowKit
set_option linter.unusedVariables false
set_option linter.unusedSimpArgs false
theorem EvsAt.lt {w : World} {g o n : Nat} {f : Nat → Ev} (h : EvsAt w g o n f) (hn : 0 < n) : g < w.heap.size := World.block_lt_of_cell? w _ (h.cell 0 hn 0 (by decide))
/-- Two events have changed places. -/
theorem EvsAt.swapped {w : World} {g o n J m : Nat} {f : Nat → Ev} (h : EvsAt w g o n f) (hJ : J < n) (hm : m < n) :
    EvsAt ((((((((((((w.setCell ⟨g, o + J * 6, none⟩ (.int .i64 (f m).k.T)).setCell ⟨g, o + J * 6 + 1, none⟩ (.int .i64 (f m).k.O)).setCell ⟨g, o + J * 6 + 2, none⟩ (.int .i64 (f m).k.S)).setCell ⟨g, o + J * 6 + 3, none⟩ (.int .i64 (f m).p)).setCell ⟨g, o + J * 6 + 4, none⟩ (.int .i64 (f m).q)).setCell ⟨g, o + J * 6 + 5, none⟩ (.int .i64 (f m).d)).setCell ⟨g, o + m * 6, none⟩ (.int .i64 (f J).k.T)).setCell ⟨g, o + m * 6 + 1, none⟩ (.int .i64 (f J).k.O)).setCell ⟨g, o + m * 6 + 2, none⟩ (.int .i64 (f J).k.S)).setCell ⟨g, o + m * 6 + 3, none⟩ (.int .i64 (f J).p)).setCell ⟨g, o + m * 6 + 4, none⟩ (.int .i64 (f J).q)).setCell ⟨g, o + m * 6 + 5, none⟩ (.int .i64 (f J).d)).drew g o n (swp f m J) :=
  (h.swap hm hJ).drew
theorem Chg.swapped {w wr : World} {g o J m : Nat} (h : Chg (fun x => x = g) w wr) (a0 a1 a2 a3 a4 a5 b0 b1 b2 b3 b4 b5 : Value) :
    Chg (fun x => x = g) w ((((((((((((wr.setCell ⟨g, o + J * 6, none⟩ b0).setCell ⟨g, o + J * 6 + 1, none⟩ b1).setCell ⟨g, o + J * 6 + 2, none⟩ b2).setCell ⟨g, o + J * 6 + 3, none⟩ b3).setCell ⟨g, o + J * 6 + 4, none⟩ b4).setCell ⟨g, o + J * 6 + 5, none⟩ b5).setCell ⟨g, o + m * 6, none⟩ a0).setCell ⟨g, o + m * 6 + 1, none⟩ a1).setCell ⟨g, o + m * 6 + 2, none⟩ a2).setCell ⟨g, o + m * 6 + 3, none⟩ a3).setCell ⟨g, o + m * 6 + 4, none⟩ a4).setCell ⟨g, o + m * 6 + 5, none⟩ a5).drew :=
  ((((((((((((h.setCell (p := ⟨g, _, none⟩) (.inl rfl) _).setCell (p := ⟨g, _, none⟩) (.inl rfl) _).setCell (p := ⟨g, _, none⟩) (.inl rfl) _).setCell (p := ⟨g, _, none⟩) (.inl rfl) _).setCell (p := ⟨g, _, none⟩) (.inl rfl) _).setCell (p := ⟨g, _, none⟩) (.inl rfl) _).setCell (p := ⟨g, _, none⟩) (.inl rfl) _).setCell (p := ⟨g, _, none⟩) (.inl rfl) _).setCell (p := ⟨g, _, none⟩) (.inl rfl) _).setCell (p := ⟨g, _, none⟩) (.inl rfl) _).setCell (p := ⟨g, _, none⟩) (.inl rfl) _).setCell (p := ⟨g, _, none⟩) (.inl rfl) _).drew
/-- The cells of two, ahead of their exchange. -/
theorem EvsAt.pair {w : World} {g o n J m : Nat} {f : Nat → Ev} (h : EvsAt w g o n f) (hJ : J < n) (hm : m < n) (hne : m ≠ J) :
    (((((((w.setCell ⟨g, o + J * 6, none⟩ (.int .i64 (f m).k.T)).setCell ⟨g, o + J * 6 + 1, none⟩ (.int .i64 (f m).k.O)).setCell ⟨g, o + J * 6 + 2, none⟩ (.int .i64 (f m).k.S)).setCell ⟨g, o + J * 6 + 3, none⟩ (.int .i64 (f m).p)).setCell ⟨g, o + J * 6 + 4, none⟩ (.int .i64 (f m).q)).setCell ⟨g, o + J * 6 + 5, none⟩ (.int .i64 (f m).d)).cell? ⟨g, o + m * 6, none⟩ = some (.int .i64 (f m).k.T)) ∧
    (((((((w.setCell ⟨g, o + J * 6, none⟩ (.int .i64 (f m).k.T)).setCell ⟨g, o + J * 6 + 1, none⟩ (.int .i64 (f m).k.O)).setCell ⟨g, o + J * 6 + 2, none⟩ (.int .i64 (f m).k.S)).setCell ⟨g, o + J * 6 + 3, none⟩ (.int .i64 (f m).p)).setCell ⟨g, o + J * 6 + 4, none⟩ (.int .i64 (f m).q)).setCell ⟨g, o + J * 6 + 5, none⟩ (.int .i64 (f m).d)).cell? ⟨g, o + m * 6 + 1, none⟩ = some (.int .i64 (f m).k.O)) ∧
    (((((((w.setCell ⟨g, o + J * 6, none⟩ (.int .i64 (f m).k.T)).setCell ⟨g, o + J * 6 + 1, none⟩ (.int .i64 (f m).k.O)).setCell ⟨g, o + J * 6 + 2, none⟩ (.int .i64 (f m).k.S)).setCell ⟨g, o + J * 6 + 3, none⟩ (.int .i64 (f m).p)).setCell ⟨g, o + J * 6 + 4, none⟩ (.int .i64 (f m).q)).setCell ⟨g, o + J * 6 + 5, none⟩ (.int .i64 (f m).d)).cell? ⟨g, o + m * 6 + 2, none⟩ = some (.int .i64 (f m).k.S)) ∧
    (((((((w.setCell ⟨g, o + J * 6, none⟩ (.int .i64 (f m).k.T)).setCell ⟨g, o + J * 6 + 1, none⟩ (.int .i64 (f m).k.O)).setCell ⟨g, o + J * 6 + 2, none⟩ (.int .i64 (f m).k.S)).setCell ⟨g, o + J * 6 + 3, none⟩ (.int .i64 (f m).p)).setCell ⟨g, o + J * 6 + 4, none⟩ (.int .i64 (f m).q)).setCell ⟨g, o + J * 6 + 5, none⟩ (.int .i64 (f m).d)).cell? ⟨g, o + m * 6 + 3, none⟩ = some (.int .i64 (f m).p)) ∧
    (((((((w.setCell ⟨g, o + J * 6, none⟩ (.int .i64 (f m).k.T)).setCell ⟨g, o + J * 6 + 1, none⟩ (.int .i64 (f m).k.O)).setCell ⟨g, o + J * 6 + 2, none⟩ (.int .i64 (f m).k.S)).setCell ⟨g, o + J * 6 + 3, none⟩ (.int .i64 (f m).p)).setCell ⟨g, o + J * 6 + 4, none⟩ (.int .i64 (f m).q)).setCell ⟨g, o + J * 6 + 5, none⟩ (.int .i64 (f m).d)).cell? ⟨g, o + m * 6 + 4, none⟩ = some (.int .i64 (f m).q)) ∧
    (((((((w.setCell ⟨g, o + J * 6, none⟩ (.int .i64 (f m).k.T)).setCell ⟨g, o + J * 6 + 1, none⟩ (.int .i64 (f m).k.O)).setCell ⟨g, o + J * 6 + 2, none⟩ (.int .i64 (f m).k.S)).setCell ⟨g, o + J * 6 + 3, none⟩ (.int .i64 (f m).p)).setCell ⟨g, o + J * 6 + 4, none⟩ (.int .i64 (f m).q)).setCell ⟨g, o + J * 6 + 5, none⟩ (.int .i64 (f m).d)).cell? ⟨g, o + m * 6 + 5, none⟩ = some (.int .i64 (f m).d)) := by
  have hch : EvsAt ((((((w.setCell ⟨g, o + J * 6, none⟩ (.int .i64 (f m).k.T)).setCell ⟨g, o + J * 6 + 1, none⟩ (.int .i64 (f m).k.O)).setCell ⟨g, o + J * 6 + 2, none⟩ (.int .i64 (f m).k.S)).setCell ⟨g, o + J * 6 + 3, none⟩ (.int .i64 (f m).p)).setCell ⟨g, o + J * 6 + 4, none⟩ (.int .i64 (f m).q)).setCell ⟨g, o + J * 6 + 5, none⟩ (.int .i64 (f m).d)) g o n (upd f J (f m)) := h.set hJ (f m)
  have hum : upd f J (f m) m = f m := by unfold upd; rw [if_neg hne]
  have := hch.cells hm
  rw [hum] at this
  exact this
theorem wrap_nat {k : Nat} (h : k ≤ 9000) : IntKind.i64.wrap (k : Int) = (k : Int) := IntWalk.i64_in (n := (k : Int)) (by constructor <;> omega)
section
set_option maxHeartbeats 3200000
set_option maxRecDepth 100000
theorem swapRange_any (g o n c a b k : Nat) (f : Nat → Ev) (w : World) (h : EvsAt w g o n f) (hab : a + k ≤ b) (hbn : b + k ≤ n) (hn : n ≤ 1000) :
    Calls Try.prog 33 #[.slice (some ⟨g, o, none⟩) n c, .int .i64 (a : Int), .int .i64 (b : Int), .int .i64 (k : Int), .func (.func 10) #[] #[]] w fun e w' => e = .returned (.tuple #[]) ∧ EvsAt w' g o n (swpR f a b k) ∧ Chg (fun x => x = g) w w' := by
  go_enter Try.func33, Try.ntmps33
  go_wp2_with fail
  go_loopw [10] (fun i wr => ∃ t : Nat, t ≤ k ∧ i = .int .i64 t ∧ Hid (EvsAt wr g o n (swpR f a b t) ∧ Chg (fun x => x = g) w wr)) (fun i _ => k - (intOf i).toNat)
  case atStart => exact ⟨0, Nat.zero_le _, rfl, Lib.hid ⟨by rw [swpR_zero]; exact h, Chg.refl _ _⟩⟩
  case round =>
    obtain ⟨t, ht, rfl, HI⟩ := hrel
    by_cases hlt : t < k
    · have g1 : (t : Int) < (k : Int) := by omega
      obtain ⟨J, hJ⟩ : ∃ J, J = a + t := ⟨_, rfl⟩
      obtain ⟨m, hm⟩ : ∃ m, m = b + t := ⟨_, rfl⟩
      have hJn : J < n := by omega
      have hmn : m < n := by omega
      have hne : m ≠ J := by omega
      obtain ⟨f2, hf2⟩ : ∃ f2, swpR f a b t = f2 := ⟨_, rfl⟩
      have hA := HI.out.1
      rw [hf2] at hA
      have w1 : IntKind.i64.wrap ((a : Int) + (t : Int)) = (J : Int) := by rw [show (a : Int) + (t : Int) = (J : Int) by omega]; exact wrap_nat (by omega)
      have w2 : IntKind.i64.wrap ((b : Int) + (t : Int)) = (m : Int) := by rw [show (b : Int) + (t : Int) = (m : Int) by omega]; exact wrap_nat (by omega)
      have gJ : (J : Int) < (n : Int) := by omega
      have gm : (m : Int) < (n : Int) := by omega
      go_upto_region 3 with (fail)
      refine swapRange3 g o n c J m a b t (f2 J).k.T (f2 J).k.O (f2 J).k.S (f2 J).p (f2 J).q (f2 J).d (f2 m).k.T (f2 m).k.O (f2 m).k.S (f2 m).p (f2 m).q (f2 m).d wr gJ gm w1 w2 (hA.cells hJn) (hA.cells hmn) (hA.pair hJn hmn hne) (hA.open_ hJn) (hA.open_ hmn) _ ?_
      intro t16 t17 t18 t19 t20 t21 t22 t23 t24 t25 t26 t27 t28 t29 t30 t31 t32 t33 t34 t35 t36 t37
      have hsw := hA.swapped hJn hmn
      have hch := HI.out.2.swapped (o := o) (J := J) (m := m) (.int .i64 (f2 J).k.T) (.int .i64 (f2 J).k.O) (.int .i64 (f2 J).k.S) (.int .i64 (f2 J).p) (.int .i64 (f2 J).q) (.int .i64 (f2 J).d) (.int .i64 (f2 m).k.T) (.int .i64 (f2 m).k.O) (.int .i64 (f2 m).k.S) (.int .i64 (f2 m).p) (.int .i64 (f2 m).q) (.int .i64 (f2 m).d)
      have he : swp f2 m J = swpR f a b (t + 1) := by
        rw [← hf2, ← swpR_succ f (by omega : a + t < b), hJ, hm]
        funext x
        rw [swp_is, swp_is]
        congr 1
        repeat' split
        all_goals omega
      rw [he] at hsw
      generalize World.drew _ = w9 at hsw hch ⊢
      have HN : Hid (EvsAt w9 g o n (swpR f a b (t + 1)) ∧ Chg (fun x => x = g) w w9) := Lib.hid ⟨hsw, hch⟩
      clear hsw hch he hA hf2 w1 w2 gJ gm
      go_wp2_with fail
      go_roundw
      case rel => exact ⟨t + 1, by omega, by go_num, HN⟩
      case measure => simp [intOf]; omega
    · have g1 : ¬ (t : Int) < (k : Int) := by omega
      obtain rfl : t = k := by omega
      go_wp2_with fail
      go_end0
      exact ⟨rfl, HI.out⟩
theorem wrap_sub {a b : Nat} (h : b ≤ a) (ha : a ≤ 9000) : IntKind.i64.wrap ((a : Int) - (b : Int)) = ((a - b : Nat) : Int) := by
  rw [show (a : Int) - (b : Int) = ((a - b : Nat) : Int) by omega]; exact wrap_nat (by omega)
theorem wrap_add {a b : Nat} (h : a + b ≤ 9000) : IntKind.i64.wrap ((a : Int) + (b : Int)) = ((a + b : Nat) : Int) := by
  rw [show (a : Int) + (b : Int) = ((a + b : Nat) : Int) by omega]; exact wrap_nat h
theorem rotate_any (g o n c a m b : Nat) (f : Nat → Ev) (w : World) (h : EvsAt w g o n f) (ham : a < m) (hmb : m < b) (hbn : b ≤ n) (hn : n ≤ 1000) :
    Calls Try.prog 32 #[.slice (some ⟨g, o, none⟩) n c, .int .i64 (a : Int), .int .i64 (m : Int), .int .i64 (b : Int), .func (.func 10) #[] #[]] w fun e w' => e = .returned (.tuple #[]) ∧ EvsAt w' g o n (rot f a m b) ∧ Chg (fun x => x = g) w w' := by
  have KS := Lib.hid (fun (x y k : Nat) (f1 : Nat → Ev) (W : World) h1 h2 h3 => swapRange_any g o n c x y k f1 W h1 h2 h3 hn)
  obtain ⟨i0, hi0⟩ : ∃ i0, i0 = m - a := ⟨_, rfl⟩
  obtain ⟨j0, hj0⟩ : ∃ j0, j0 = b - m := ⟨_, rfl⟩
  have w1 : IntKind.i64.wrap ((m : Int) - (a : Int)) = (i0 : Int) := by rw [hi0]; exact wrap_sub (by omega) (by omega)
  have w2 : IntKind.i64.wrap ((b : Int) - (m : Int)) = (j0 : Int) := by rw [hj0]; exact wrap_sub (by omega) (by omega)
  have hst : Hid (EvsAt w g o n f ∧ Chg (fun x => x = g) w w ∧ rot f (m - i0) m (m + j0) = rot f a m b) := Lib.hid ⟨h, Chg.refl _ _, by rw [show m - i0 = a by omega, show m + j0 = b by omega]⟩
  have HI0 := Lib.hid hi0
  have HJ0 := Lib.hid hj0
  clear h hi0 hj0
  go_enter Try.func32, Try.ntmps32
  go_wp2_with fail
  go_loopw [10, 11] (fun x y wr => ∃ (i j : Nat) (f1 : Nat → Ev), 0 < i ∧ 0 < j ∧ i ≤ m ∧ m + j ≤ n ∧ x = .int .i64 i ∧ y = .int .i64 j ∧ Hid (EvsAt wr g o n f1 ∧ Chg (fun x => x = g) w wr ∧ rot f1 (m - i) m (m + j) = rot f a m b)) (fun x y _ => (intOf x).toNat + (intOf y).toNat)
  case atStart => exact ⟨i0, j0, f, by have := HI0.out; omega, by have := HJ0.out; omega, by have := HI0.out; omega, by have := HJ0.out; omega, rfl, rfl, hst⟩
  case round =>
    obtain ⟨i, j, f1, hi, hj, him, hjn, rfl, rfl, HI⟩ := hrel
    obtain ⟨x, hx⟩ : ∃ x, x = m - i := ⟨_, rfl⟩
    have w3 : IntKind.i64.wrap ((m : Int) - (i : Int)) = (x : Int) := by rw [hx]; exact wrap_sub him (by omega)
    have HX := Lib.hid hx
    rcases Nat.lt_trichotomy i j with hlt | heq | hgt
    · have g1 : ((i : Int) == (j : Int)) = false := by simp; omega
      have g2 : ¬ (j : Int) < (i : Int) := by omega
      obtain ⟨y, hy⟩ : ∃ y, y = m + j - i := ⟨_, rfl⟩
      obtain ⟨d, hd⟩ : ∃ d, d = j - i := ⟨_, rfl⟩
      have w4 : IntKind.i64.wrap ((m : Int) + (j : Int)) = (m : Int) + (j : Int) := by rw [wrap_add (by omega)]; omega
      have w5 : IntKind.i64.wrap ((m : Int) + (j : Int) - (i : Int)) = (y : Int) := by rw [show (m : Int) + (j : Int) - (i : Int) = (y : Int) by omega]; exact wrap_nat (by omega)
      have w6 : IntKind.i64.wrap ((j : Int) - (i : Int)) = (d : Int) := by rw [hd]; exact wrap_sub (by omega) (by omega)
      have K := Lib.hid (KS.out x y i f1 wr HI.out.1 (by omega) (by omega))
      have HY := Lib.hid hy
      have HD := Lib.hid hd
      clear hx hy hd
      go_wp2_with fail
      refine K.out.mono ?_
      rintro r w9 ⟨rfl, he, hc⟩
      have HN : Hid (EvsAt w9 g o n (swpR f1 x y i) ∧ Chg (fun x => x = g) w w9 ∧ rot (swpR f1 x y i) (m - i) m (m + d) = rot f a m b) := Lib.hid ⟨he, HI.out.2.1.trans hc fun _ _ q => q, by rw [HX.out, HY.out, HD.out, rot_right f1 hlt him]; exact HI.out.2.2⟩
      clear he hc
      go_wp2_with fail
      go_roundw
      case rel => exact ⟨i, d, _, hi, by have := HD.out; omega, him, by have := HD.out; omega, rfl, rfl, HN⟩
      case measure => simp [intOf]; have := HD.out; omega
    · subst heq
      have g1 : ((i : Int) == (i : Int)) = true := by simp
      have K := Lib.hid (KS.out x m i f1 wr HI.out.1 (by omega) (by omega))
      clear hx
      go_wp2_with fail
      refine K.out.mono ?_
      rintro r w9 ⟨rfl, he, hc⟩
      go_wp2_with fail
      go_end0
      refine ⟨rfl, ?_, HI.out.2.1.trans hc fun _ _ q => q⟩
      rw [← HI.out.2.2, ← rot_same f1 him, ← HX.out]
      exact he
    · have g1 : ((i : Int) == (j : Int)) = false := by simp; omega
      have g2 : (j : Int) < (i : Int) := by omega
      obtain ⟨d, hd⟩ : ∃ d, d = i - j := ⟨_, rfl⟩
      have w6 : IntKind.i64.wrap ((i : Int) - (j : Int)) = (d : Int) := by rw [hd]; exact wrap_sub (by omega) (by omega)
      have K := Lib.hid (KS.out x m j f1 wr HI.out.1 (by omega) (by omega))
      have HD := Lib.hid hd
      clear hx hd
      go_wp2_with fail
      refine K.out.mono ?_
      rintro r w9 ⟨rfl, he, hc⟩
      have HN : Hid (EvsAt w9 g o n (swpR f1 x m j) ∧ Chg (fun x => x = g) w w9 ∧ rot (swpR f1 x m j) (m - d) m (m + j) = rot f a m b) := Lib.hid ⟨he, HI.out.2.1.trans hc fun _ _ q => q, by rw [HX.out, HD.out, rot_left f1 hgt him]; exact HI.out.2.2⟩
      clear he hc
      go_wp2_with fail
      go_roundw
      case rel => exact ⟨d, j, _, by have := HD.out; omega, hj, by have := HD.out; omega, hjn, rfl, rfl, HN⟩
      case measure => simp [intOf]; have := HD.out; omega
end
end Go.Proofs.Ytefgpnalahijgaa
