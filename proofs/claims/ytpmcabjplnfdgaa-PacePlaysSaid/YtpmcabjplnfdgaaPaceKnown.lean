/- known() of the paces; PaceParts' walk. -/
import Derived.Test.YtpmcabjplnfdgaaPaceRate
namespace Go.Proofs.Ytpmcabjplnfdgaa
open Go.RowKit
set_option linter.unusedVariables false
set_option linter.unusedSimpArgs false
/-- A pace of ours, in a block of its own since base. -/
def PCb (w : World) (base B : Nat) (p : Pc) : Prop := PC w B p ∧ base ≤ B ∧ base ≤ w.heap.size
theorem PCb.new {w w' : World} {base B : Nat} {p : Pc} (h : PCb w base B p) (hB : Below w.heap.size w w') : PCb w' base B p := ⟨h.1.new hB, h.2.1, Nat.le_trans h.2.2 hB.size⟩
theorem PCb.far {M : Nat → Prop} {w w' : World} {base B : Nat} {p : Pc} (h : PCb w base B p) (hc : Chg M w w') (hg : ¬ M B) : PCb w' base B p := ⟨h.1.chg hc hg, h.2.1, Nat.le_trans h.2.2 hc.size⟩
theorem New_s (base : Nat) (w : World) (hb : base ≤ w.heap.size) :
    Calls Try.prog 7 #[] w fun e w' => e = .returned (.pointer (some ⟨w.heap.size, 0, none⟩)) ∧ PCb w' base w.heap.size Pc.zero ∧ Below w.heap.size w w' ∧ w.heap.size < w'.heap.size := by
  refine (New_any w).mono ?_
  rintro e w' ⟨rfl, rfl⟩
  exact ⟨rfl, ⟨new_pc w, hb, by simp; omega⟩, (Below.refl _ _).alloc (Nat.le_refl _) _, by simp⟩
theorem Tick_s (base B : Nat) (p : Pc) (k : Int) (w : World) (h : PCb w base B p) (hk : -9223372036854775808 ≤ k ∧ k ≤ 9223372036854775807) :
    Calls Try.prog 9 #[.pointer (some ⟨B, 0, none⟩), .int .i64 k] w fun e w' => e = .returned (.tuple #[]) ∧ PCb w' base B (p.tick k) ∧ Chg (fun i => i = B) w w' ∧ Below base w w' := by
  refine (Tick_any B p k w h.1 hk).mono ?_
  rintro e w' ⟨rfl, h1, h2⟩
  exact ⟨rfl, ⟨h1, h.2.1, Nat.le_trans h.2.2 h2.size⟩, h2, h2.below (fun i _ e => by subst e; exact h.2.1) h.2.2⟩
theorem Horizon_s (base B : Nat) (p : Pc) (z : Nat) (w : World) (h : PCb w base B p) (hz : p.hz p.C = z) :
    Calls Try.prog 11 #[.pointer (some ⟨B, 0, none⟩)] w fun e w' => e = .returned (.int .i64 z) ∧ PCb w' base B p ∧ Below w.heap.size w w' := by
  subst hz
  refine (Horizon_any B p w h.1).mono ?_
  rintro e w' ⟨rfl, n, rfl⟩
  exact ⟨rfl, h.new (Below.many (Below.refl _ _) _), Below.many (Below.refl _ _) _⟩
/-- A rate that is set, or refused. -/
def Pc.rate (p : Pc) (n d : Int) : Pc := if 1 ≤ d ∧ d ≤ 1048576 ∧ 0 ≤ n ∧ n ≤ 1048576 then p.rated n.toNat d.toNat else p
def rateR (n d : Int) : Int := if 1 ≤ d ∧ d ≤ 1048576 ∧ 0 ≤ n ∧ n ≤ 1048576 then 0 else 2
theorem Rate_s (base B : Nat) (p : Pc) (n d : Int) (w : World) (h : PCb w base B p) :
    Calls Try.prog 8 #[.pointer (some ⟨B, 0, none⟩), .int .i64 n, .int .i64 d] w fun e w' => e = .returned (.int .i64 (rateR n d)) ∧ PCb w' base B (p.rate n d) ∧ Chg (fun i => i = B) w w' ∧ Below base w w' := by
  by_cases hr : rateOk n d
  · have hr' := hr
    unfold rateOk at hr'
    obtain ⟨N, rfl⟩ := Int.eq_ofNat_of_zero_le hr'.2.2.1
    obtain ⟨D, rfl⟩ := Int.eq_ofNat_of_zero_le (show 0 ≤ d by omega)
    refine (Rate_ok B p N D w h.1 (by omega) (by omega) (by omega)).mono ?_
    rintro e w' ⟨rfl, h1, h2⟩
    unfold Pc.rate rateR
    rw [if_pos hr', if_pos hr']
    exact ⟨rfl, ⟨h1, h.2.1, Nat.le_trans h.2.2 h2.size⟩, h2, h2.below (fun i _ e => by subst e; exact h.2.1) h.2.2⟩
  · refine (Rate_no B n d w hr).mono ?_
    rintro e w' ⟨rfl, rfl⟩
    have hr' : ¬ (1 ≤ d ∧ d ≤ 1048576 ∧ 0 ≤ n ∧ n ≤ 1048576) := hr
    unfold Pc.rate rateR
    rw [if_neg hr', if_neg hr']
    exact ⟨rfl, h, Chg.refl _ _, Below.refl _ _⟩
theorem known_rate (base B : Nat) (p : Pc) (n d : Int) (q : Pc) (w : World) (h : PCb w base B p) (hr : rateR n d = 0) (hq : p.rate n d = q) :
    Calls Try.prog 8 #[.pointer (some ⟨B, 0, none⟩), .int .i64 n, .int .i64 d] w fun e w' => e = .returned (.int .i64 0) ∧ PCb w' base B q ∧ Below base w w' := by
  subst hq
  refine (Rate_s base B p n d w h).mono ?_
  rintro e w' ⟨rfl, h1, h2, h3⟩
  rw [hr]
  exact ⟨rfl, h1, h3⟩
theorem known_tick (base B : Nat) (p : Pc) (k : Int) (q : Pc) (w : World) (h : PCb w base B p) (hk : -9223372036854775808 ≤ k ∧ k ≤ 9223372036854775807) (hq : p.tick k = q) :
    Calls Try.prog 9 #[.pointer (some ⟨B, 0, none⟩), .int .i64 k] w fun e w' => e = .returned (.tuple #[]) ∧ PCb w' base B q ∧ Below base w w' := by
  subst hq
  exact (Tick_s base B p k w h hk).mono fun _ _ ⟨a, b, _, c⟩ => ⟨a, b, c⟩
def kp1 : Pc := ⟨0, 0, 3, 2, 0⟩
def kp2 : Pc := ⟨0, 0, 3, 2, 5⟩
def kp3 : Pc := ⟨7, 5, 0, 1, 5⟩
def kp4 : Pc := ⟨7, 5, 0, 1, 100⟩
def kp5 : Pc := ⟨7, 100, 1, 1, 100⟩
def kp6 : Pc := ⟨7, 100, 1, 1, 110⟩
theorem known_any (w : World) : Calls Try.prog 6 #[] w fun e w' => e = .returned (.bool true) ∧ Below w.heap.size w w' := by
  have k0 := New_s w.heap.size w (Nat.le_refl _)
  go_enter Try.func6, Try.ntmps6
  go_wp2_with fail
  refine k0.mono ?_
  rintro e w1 ⟨rfl, h1, b1, _⟩
  clear k0
  go_wp2_with fail
  refine (known_rate _ _ _ 3 2 kp1 w1 h1 (by decide +kernel) (by rfl)).mono ?_
  rintro e w2 ⟨rfl, h2, b2⟩
  go_wp2_with fail
  refine (known_tick _ _ _ 5 kp2 w2 h2 (by omega) rfl).mono ?_
  rintro e w3 ⟨rfl, h3, b3⟩
  go_wp2_with fail
  refine (Horizon_s _ _ _ 7 w3 h3 (by decide +kernel)).mono ?_
  rintro e w4 ⟨rfl, h4, b4⟩
  go_wp2_with fail
  refine (known_rate _ _ _ 0 1 kp3 w4 h4 (by decide +kernel) rfl).mono ?_
  rintro e w5 ⟨rfl, h5, b5⟩
  go_wp2_with fail
  refine (known_tick _ _ _ 100 kp4 w5 h5 (by omega) rfl).mono ?_
  rintro e w6 ⟨rfl, h6, b6⟩
  go_wp2_with fail
  refine (Horizon_s _ _ _ 7 w6 h6 (by decide +kernel)).mono ?_
  rintro e w7 ⟨rfl, h7, b7⟩
  go_wp2_with fail
  refine (known_tick _ _ _ 50 kp4 w7 h7 (by omega) rfl).mono ?_
  rintro e w8 ⟨rfl, h8, b8⟩
  go_wp2_with fail
  refine (known_rate _ _ _ 1 1 kp5 w8 h8 (by decide +kernel) rfl).mono ?_
  rintro e w9 ⟨rfl, h9, b9⟩
  go_wp2_with fail
  refine (known_tick _ _ _ 110 kp6 w9 h9 (by omega) rfl).mono ?_
  rintro e wa ⟨rfl, ha, ba⟩
  go_wp2_with fail
  refine (Horizon_s _ _ _ 17 wa ha (by decide +kernel)).mono ?_
  rintro e wb ⟨rfl, hb, bb⟩
  go_wp2_with fail
  go_ret
  exact ⟨rfl, ((((((((((b1.trans b2).trans b3).trans (b4.mono h3.2.2)).trans b5).trans b6).trans (b7.mono h6.2.2)).trans b8).trans b9).trans ba).trans (bb.mono ha.2.2))⟩
end Go.Proofs.Ytpmcabjplnfdgaa
