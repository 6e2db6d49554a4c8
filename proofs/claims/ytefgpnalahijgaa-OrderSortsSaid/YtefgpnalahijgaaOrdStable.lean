/- The stable sort of events by their keys. Helper. -/
import Derived.Test.YtefgpnalahijgaaOrdSym
namespace Go.Proofs.Ytefgpnalahijgaa
open Go.RowKit
set_option linter.unusedVariables false
set_option linter.unusedSimpArgs false
/-- From A on, ranges of s are in order. -/
def SB (f : Nat → Ev) (s n A : Nat) : Prop := ∀ k, Rise f (A + k * s) (min (A + k * s + s) n)
/-- The first t ranges of S are in order. -/
def PB (f : Nat → Ev) (S t : Nat) : Prop := ∀ k, k < t → Rise f (k * S) (k * S + S)
theorem SB.first {f : Nat → Ev} {s n A : Nat} (h : SB f s n A) : Rise f A (min (A + s) n) := by have := h 0; simpa using this
theorem SB.second {f : Nat → Ev} {s n A : Nat} (h : SB f s n A) : Rise f (A + s) (min (A + s + s) n) := by have := h 1; simpa using this
theorem SB.skip {f g : Nat → Ev} {s n A S : Nat} (h : SB f s n A) (hS : S = 2 * s) (hg : ∀ x, A + S ≤ x → g x = f x) : SB g s n (A + S) := fun k => by
  have := h (k + 2)
  rw [show A + (k + 2) * s = A + S + k * s by rw [Nat.add_mul]; omega] at this
  exact this.congr fun i h1 h2 => hg i (by omega)
theorem PB.more {f g : Nat → Ev} {S t A : Nat} (h : PB f S t) (hA : A = t * S) (hg : ∀ x, x < A → g x = f x) (hr : Rise g A (A + S)) : PB g S (t + 1) := fun k hk => by
  by_cases he : k = t
  · subst he; rw [← hA]; exact hr
  · have hm : k * S + S ≤ t * S := by
      have := Nat.mul_le_mul_right S (show k + 1 ≤ t by omega)
      rwa [Nat.add_mul, Nat.one_mul] at this
    exact (h k (by omega)).congr fun i h1 h2 => hg i (by omega)
theorem PB.all {f : Nat → Ev} {S t A n : Nat} (h : PB f S t) (hA : A = t * S) (hn : A + S > n) (hr : Rise f A n) : SB f S n 0 := fun k => by
  rw [Nat.zero_add]
  rcases Nat.lt_trichotomy k t with hk | hk | hk
  · exact (h k hk).wide (Nat.le_refl _) (Nat.min_le_left _ _)
  · subst hk; rw [← hA]; exact hr.wide (Nat.le_refl _) (Nat.min_le_right _ _)
  · have hm : t * S + S ≤ k * S := by
      have := Nat.mul_le_mul_right S (show t + 1 ≤ k by omega)
      rwa [Nat.add_mul, Nat.one_mul] at this
    exact Rise.short (by have := Nat.min_le_right (k * S + S) n; omega)
theorem SB.done {f : Nat → Ev} {s n : Nat} (h : SB f s n 0) (hs : n ≤ s) : Rise f 0 n := by
  have := h.first
  rwa [Nat.zero_add, Nat.min_eq_right hs] at this
/-- What the sort has left so far. -/
structure Std (w w' : World) (g o n : Nat) (f f' : Nat → Ev) : Prop where
  at_ : EvsAt w' g o n f'
  chg : Chg (fun x => x = g) w w'
  mgd : Mgd f f' 0 n
theorem Std.ins {w w1 w2 : World} {g o n a b : Nat} {f f1 f2 : Nat → Ev} (h : Std w w1 g o n f f1) (hi : Insd w1 w2 g o n a b f1 f2) (hab : a ≤ b) (hb : b ≤ n) : Std w w2 g o n f f2 :=
  ⟨hi.1, h.chg.trans hi.2.2.2 fun _ _ q => q, h.mgd.trans ((hi.2.1.mgd (fun x hx => hi.2.2.1 x hx) hab hb).wide (Nat.zero_le _) hab hb)⟩
theorem Std.sym {w w1 w2 : World} {g o n a b : Nat} {f f1 f2 : Nat → Ev} (h : Std w w1 g o n f f1) (h1 : EvsAt w2 g o n f2) (h2 : Chg (fun x => x = g) w1 w2) (h3 : Mgd f1 f2 a b) (hab : a ≤ b) (hb : b ≤ n) : Std w w2 g o n f f2 :=
  ⟨h1, h.chg.trans h2 fun _ _ q => q, h.mgd.trans (h3.wide (Nat.zero_le _) hab hb)⟩
section
set_option maxHeartbeats 12800000
set_option maxRecDepth 100000
theorem stable_any (g o n c : Nat) (f : Nat → Ev) (w : World) (h : EvsAt w g o n f) (hn : n ≤ 1000) :
    Calls Try.prog 29 #[.slice (some ⟨g, o, none⟩) n c, .int .i64 (n : Int), .func (.func 10) #[] #[]] w fun e w' => e = .returned (.tuple #[]) ∧ ∃ f', Std w w' g o n f f' ∧ Rise f' 0 n := by
  have KI := Lib.hid (fun (a b : Nat) (f1 : Nat → Ev) (W : World) h1 h2 h3 => ins_any g o n a b c f1 W h1 h2 h3 hn)
  have KM := Lib.hid (fun (a m b : Nat) (f1 : Nat → Ev) (W : World) h1 h2 h3 h4 h5 h6 => sym_any g o n c a m b f1 W h1 h2 h3 h4 hn h5 h6)
  have H0 : Hid (Std w w g o n f f) := Lib.hid ⟨h, Chg.refl _ _, Mgd.refl _ _ _⟩
  clear h
  go_enter Try.func29, Try.ntmps29
  go_wp2_with fail
  go_loopw [7, 8] (fun x y wr => ∃ (t A B : Nat) (f1 : Nat → Ev), x = .int .i64 A ∧ y = .int .i64 B ∧ B = A + 20 ∧ A ≤ n ∧ Hid (A = t * 20 ∧ Std w wr g o n f f1 ∧ PB f1 20 t)) (fun x y _ => n + 20 - (intOf x).toNat)
  case atStart => exact ⟨0, 0, 20, f, rfl, rfl, rfl, Nat.zero_le _, Lib.hid ⟨by omega, H0.out, fun k hk => by omega⟩⟩
  case round =>
    obtain ⟨t, A, B, f1, rfl, rfl, hBA, hAn, HI⟩ := hrel
    by_cases hBn : B ≤ n
    · have g1 : (B : Int) ≤ (n : Int) := by omega
      obtain ⟨B2, hB2⟩ : ∃ B2, B2 = B + 20 := ⟨_, rfl⟩
      have w1 : IntKind.i64.wrap ((B : Int) + 20) = (B2 : Int) := by rw [show (B : Int) + 20 = (B2 : Int) by omega]; exact wrap_nat (by omega)
      have K := Lib.hid (KI.out A B f1 wr HI.out.2.1.at_ (by omega) hBn)
      have HB := Lib.hid hBA
      have HB2 := Lib.hid hB2
      clear hBA hB2
      go_wp2_with fail
      refine K.out.mono ?_
      rintro r w9 ⟨rfl, f2, hi, hr⟩
      have HN : Hid (B = (t + 1) * 20 ∧ Std w w9 g o n f f2 ∧ PB f2 20 (t + 1)) := Lib.hid ⟨by have := HI.out.1; have := HB.out; omega, HI.out.2.1.ins hi (by have := HB.out; omega) hBn, HI.out.2.2.more HI.out.1 (fun x hx => hi.2.2.1 x (.inl hx)) (by rw [← HB.out]; exact hr)⟩
      clear hi hr
      go_wp2_with fail
      go_roundw
      case rel => exact ⟨t + 1, B, B2, f2, rfl, rfl, HB2.out, hBn, HN⟩
      case measure => simp [intOf]; have := HB.out; omega
    · have g1 : ¬ (B : Int) ≤ (n : Int) := by omega
      have K := Lib.hid (KI.out A n f1 wr HI.out.2.1.at_ hAn (Nat.le_refl _))
      go_wp2_with fail
      refine K.out.mono ?_
      rintro r w9 ⟨rfl, f2, hi, hr⟩
      have HS : Hid (Std w w9 g o n f f2 ∧ SB f2 20 n 0) := Lib.hid ⟨HI.out.2.1.ins hi hAn (Nat.le_refl _), PB.all (t := t) (A := A) (fun k hk => (HI.out.2.2 k hk).congr fun i h1 h2 => hi.2.2.1 i (.inl (by
        have h3 := HI.out.1
        have h4 := Nat.mul_le_mul_right 20 (show k + 1 ≤ t by omega)
        omega))) HI.out.1 (by omega) hr⟩
      clear hi hr K HI
      go_wp2_with fail
      go_loopw [6] (fun x wr => ∃ (s : Nat) (f1 : Nat → Ev), x = .int .i64 s ∧ 20 ≤ s ∧ s ≤ 2000 ∧ Hid (Std w wr g o n f f1 ∧ SB f1 s n 0)) (fun x _ => n - (intOf x).toNat)
      case atStart => exact ⟨20, f2, rfl, Nat.le_refl _, by omega, HS⟩
      case round =>
        obtain ⟨s, f1, rfl, hs20, hs2, HI⟩ := hrel
        by_cases hsn : s < n
        · have g2 : (s : Int) < (n : Int) := by omega
          obtain ⟨S, hS⟩ : ∃ S, S = 2 * s := ⟨_, rfl⟩
          have w2 : IntKind.i64.wrap (2 * (s : Int)) = (S : Int) := by rw [show 2 * (s : Int) = (S : Int) by omega]; exact wrap_nat (by omega)
          have w3 : IntKind.i64.wrap ((s : Int) * 2) = (S : Int) := by rw [show (s : Int) * 2 = (S : Int) by omega]; exact wrap_nat (by omega)
          have hS2 : S ≤ 2000 := by omega
          have HS2 := Lib.hid hS
          have hSn : 40 ≤ S := by omega
          clear hS
          go_wp2_with fail
          go_loopw [7, 8] (fun x y wx => ∃ (t A B : Nat) (f2 : Nat → Ev), x = .int .i64 A ∧ y = .int .i64 B ∧ B = A + S ∧ A ≤ n ∧ Hid (A = t * S ∧ Std w wx g o n f f2 ∧ PB f2 S t ∧ SB f2 s n A)) (fun x y _ => n + S - (intOf x).toNat)
          case atStart => exact ⟨0, 0, S, f1, rfl, rfl, by omega, Nat.zero_le _, Lib.hid ⟨by omega, HI.out.1, fun k hk => by omega, HI.out.2⟩⟩
          case round =>
            obtain ⟨t, A, B, f3, rfl, rfl, hBA, hAn, HJ⟩ := hrel
            obtain ⟨M, hM⟩ : ∃ M, M = A + s := ⟨_, rfl⟩
            have w4 : IntKind.i64.wrap ((A : Int) + (s : Int)) = (M : Int) := by rw [show (A : Int) + (s : Int) = (M : Int) by omega]; exact wrap_nat (by omega)
            have HM := Lib.hid hM
            have hMn : M ≤ 3000 := by omega
            clear hM
            by_cases hBn : B ≤ n
            · have g3 : (B : Int) ≤ (n : Int) := by omega
              obtain ⟨B2, hB2⟩ : ∃ B2, B2 = B + S := ⟨_, rfl⟩
              have w5 : IntKind.i64.wrap ((B : Int) + (S : Int)) = (B2 : Int) := by rw [show (B : Int) + (S : Int) = (B2 : Int) by omega]; exact wrap_nat (by omega)
              have K := Lib.hid (KM.out A M B f3 wr HJ.out.2.1.at_ (by have := HM.out; omega) (by have := HM.out; have := HS2.out; omega) hBn
                (by have := HJ.out.2.2.2.first; rw [← HM.out, Nat.min_eq_left (by have := HM.out; have := HS2.out; omega)] at this; exact this)
                (by have := HJ.out.2.2.2.second; rw [show A + s + s = B by have := HS2.out; omega, ← HM.out, Nat.min_eq_left hBn] at this; exact this))
              have HB := Lib.hid hBA
              have HB2 := Lib.hid hB2
              clear hBA hB2
              go_wp2_with fail
              refine K.out.mono ?_
              rintro r w9 ⟨rfl, f4, h1, h2, h3, h4⟩
              have HN : Hid (B = (t + 1) * S ∧ Std w w9 g o n f f4 ∧ PB f4 S (t + 1) ∧ SB f4 s n B) := Lib.hid ⟨by have := HJ.out.1; have := HB.out; rw [Nat.add_mul]; omega, HJ.out.2.1.sym h1 h2 h3 (by have := HB.out; omega) hBn,
                HJ.out.2.2.1.more HJ.out.1 (fun x hx => h3.out x (.inl hx)) (by rw [← HB.out]; exact h4), by rw [HB.out]; exact HJ.out.2.2.2.skip HS2.out fun x hx => h3.out x (.inr (by have := HB.out; omega))⟩
              clear h1 h2 h3 h4
              go_wp2_with fail
              go_roundw
              case rel => exact ⟨t + 1, B, B2, f4, rfl, rfl, HB2.out, hBn, HN⟩
              case measure => simp [intOf]; have := HB.out; omega
            · have g3 : ¬ (B : Int) ≤ (n : Int) := by omega
              by_cases hMl : M < n
              · have g4 : (M : Int) < (n : Int) := by omega
                have K := Lib.hid (KM.out A M n f3 wr HJ.out.2.1.at_ (by have := HM.out; omega) hMl (Nat.le_refl _)
                  (by have := HJ.out.2.2.2.first; rw [← HM.out, Nat.min_eq_left (Nat.le_of_lt hMl)] at this; exact this)
                  (by have := HJ.out.2.2.2.second; rw [show A + s + s = B by have := HS2.out; omega, ← HM.out, Nat.min_eq_right (by omega)] at this; exact this))
                go_wp2_with fail
                refine K.out.mono ?_
                rintro r w9 ⟨rfl, f4, h1, h2, h3, h4⟩
                have HN : Hid (Std w w9 g o n f f4 ∧ SB f4 S n 0) := Lib.hid ⟨HJ.out.2.1.sym h1 h2 h3 hAn (Nat.le_refl _), PB.all (t := t) (A := A) (fun k hk => (HJ.out.2.2.1 k hk).congr fun i q1 q2 => h3.out i (.inl (by
                  have q3 := HJ.out.1
                  have q4 := Nat.mul_le_mul_right S (show k + 1 ≤ t by omega)
                  rw [Nat.add_mul] at q4
                  omega))) HJ.out.1 (by omega) h4⟩
                clear h1 h2 h3 h4
                go_wp2_with fail
                go_roundw
                case rel => exact ⟨S, f4, rfl, by omega, hS2, HN⟩
                case measure => simp [intOf]; have := HS2.out; omega
              · have g4 : ¬ (M : Int) < (n : Int) := by omega
                have HN : Hid (Std w wr g o n f f3 ∧ SB f3 S n 0) := Lib.hid ⟨HJ.out.2.1, PB.all HJ.out.2.2.1 HJ.out.1 (by omega) (by
                  have := HJ.out.2.2.2.first
                  rwa [Nat.min_eq_right (by have := HM.out; omega)] at this)⟩
                go_wp2_with fail
                go_roundw
                case rel => exact ⟨S, f3, rfl, by omega, hS2, HN⟩
                case measure => simp [intOf]; have := HS2.out; omega
        · have g2 : ¬ (s : Int) < (n : Int) := by omega
          go_wp2_with fail
          go_end0
          exact ⟨rfl, f1, HI.out.1, HI.out.2.done (by omega)⟩
end
end Go.Proofs.Ytefgpnalahijgaa
