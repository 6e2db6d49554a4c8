/- Two ranges of events that are in order are merged in place. Helper. -/
import Derived.Test.YtefgpnalahijgaaOrdRot
namespace Go.Proofs.Ytefgpnalahijgaa
open Go.RowKit
set_option linter.unusedVariables false
set_option linter.unusedSimpArgs false
/-- What a merge leaves. -/
def SymOut (w : World) (g o n a b : Nat) (f : Nat → Ev) (e : Ending) (w' : World) : Prop :=
  e = .returned (.tuple #[]) ∧ ∃ f', EvsAt w' g o n f' ∧ Chg (fun x => x = g) w w' ∧ Mgd f f' a b ∧ Rise f' a b
theorem swp_comm (f : Nat → Ev) (i j : Nat) : swp f i j = swp f j i := by
  funext x
  rw [swp_is, swp_is]
  congr 1
  repeat' split
  all_goals omega
section
set_option maxHeartbeats 6400000
set_option maxRecDepth 100000
variable (g o n c a m b : Nat) (f : Nat → Ev) (w : World)
theorem sym_one (h : EvsAt w g o n f) (hm : m = a + 1) (hmb : m < b) (hbn : b ≤ n) (hn : n ≤ 1000) (r2 : Rise f m b) :
    Calls Try.prog 31 #[.slice (some ⟨g, o, none⟩) n c, .int .i64 (a : Int), .int .i64 (m : Int), .int .i64 (b : Int), .func (.func 10) #[] #[]] w (SymOut w g o n a b f) := by
  have HA := Lib.hid h
  have HR := Lib.hid r2
  have HM := Lib.hid hm
  have w1 : IntKind.i64.wrap ((m : Int) - (a : Int)) = 1 := by rw [show (m : Int) - (a : Int) = 1 by omega]; rfl
  have hYn : a < n := by omega
  have ga : (a : Int) < (n : Int) := by omega
  have ham : a < m := by omega
  clear h r2 hm
  go_enter Try.func31, Try.ntmps31
  go_wp2_with fail
  go_loopw [10, 11] (fun x y wr => ∃ i j : Nat, m ≤ i ∧ i ≤ j ∧ j ≤ b ∧ x = .int .i64 i ∧ y = .int .i64 j ∧ Hid (Nw w wr ∧ (∀ z, m ≤ z → z < i → (f z).k.less (f a).k = true) ∧ (∀ z, j ≤ z → z < b → (f z).k.less (f a).k = false))) (fun x y _ => (intOf y).toNat - (intOf x).toNat)
  case atStart => exact ⟨m, b, Nat.le_refl _, Nat.le_of_lt hmb, Nat.le_refl _, rfl, rfl, Lib.hid ⟨Nw.refl w, fun z h1 h2 => by omega, fun z h1 h2 => by omega⟩⟩
  case round =>
    obtain ⟨i, j, hmi, hij, hjb, rfl, rfl, HI⟩ := hrel
    by_cases hlt : i < j
    · have g1 : (i : Int) < (j : Int) := by omega
      obtain ⟨h, hh⟩ : ∃ h, (i + j) / 2 = h := ⟨_, rfl⟩
      have hhi : ((i : Int) + (j : Int)) / 2 = (h : Int) := by omega
      have HH := Lib.hid hhi
      have hih : i ≤ h := by omega
      have hhj : h < j := by omega
      clear hhi hh
      have hA := HA.out.new HI.out.1
      have g2 : (0 : Int) ≤ (h : Int) := by omega
      have hXn : h < n := by omega
      have g3 : (h : Int) < (n : Int) := by omega
      go_upto_region 5 with (fail)
      rw [HH.out]
      obtain ⟨e0, e1, e2, e3, e4, e5⟩ := hA.cells hXn
      obtain ⟨d0, d1, d2, d3, d4, d5⟩ := hA.cells hYn
      have HSS := Lib.hid (fun W (hW : Nw wr W) => (⟨hW, hW.cell e0, hW.cell e1, hW.cell e2, hW.cell e3, hW.cell e4, hW.cell e5, hW.cell d0, hW.cell d1, hW.cell d2, hW.cell d3, hW.cell d4, hW.cell d5⟩ : Nw wr W ∧ W.cell? ⟨g, o + h * 6, none⟩ = some (.int .i64 (f h).k.T) ∧ W.cell? ⟨g, o + h * 6 + 1, none⟩ = some (.int .i64 (f h).k.O) ∧ W.cell? ⟨g, o + h * 6 + 2, none⟩ = some (.int .i64 (f h).k.S) ∧ W.cell? ⟨g, o + h * 6 + 3, none⟩ = some (.int .i64 (f h).p) ∧ W.cell? ⟨g, o + h * 6 + 4, none⟩ = some (.int .i64 (f h).q) ∧ W.cell? ⟨g, o + h * 6 + 5, none⟩ = some (.int .i64 (f h).d) ∧ W.cell? ⟨g, o + a * 6, none⟩ = some (.int .i64 (f a).k.T) ∧ W.cell? ⟨g, o + a * 6 + 1, none⟩ = some (.int .i64 (f a).k.O) ∧ W.cell? ⟨g, o + a * 6 + 2, none⟩ = some (.int .i64 (f a).k.S) ∧ W.cell? ⟨g, o + a * 6 + 3, none⟩ = some (.int .i64 (f a).p) ∧ W.cell? ⟨g, o + a * 6 + 4, none⟩ = some (.int .i64 (f a).q) ∧ W.cell? ⟨g, o + a * 6 + 5, none⟩ = some (.int .i64 (f a).d)))
      have KB := Lib.hid (fun W => byKey_any (f h).k (f a).k (f h).p (f h).q (f h).d (f a).p (f a).q (f a).d W)
      obtain ⟨C, hC⟩ : ∃ C, C = (f h).k.cmp (f a).k := ⟨_, rfl⟩
      rw [← hC] at KB
      have hcl := Ky.cmp_neg (f h).k (f a).k
      rw [← hC] at hcl
      have HCL := Lib.hid hcl
      clear hcl hC hA e0 e1 e2 e3 e4 e5 d0 d1 d2 d3 d4 d5
      go_cut [50] (fun v wx => v = .bool (decide (C < 0)) ∧ Hid (Nw wr wx))
      case first =>
        go_region_held3 (fun W => Nw wr W ∧ W.cell? ⟨g, o + h * 6, none⟩ = some (.int .i64 (f h).k.T) ∧ W.cell? ⟨g, o + h * 6 + 1, none⟩ = some (.int .i64 (f h).k.O) ∧ W.cell? ⟨g, o + h * 6 + 2, none⟩ = some (.int .i64 (f h).k.S) ∧ W.cell? ⟨g, o + h * 6 + 3, none⟩ = some (.int .i64 (f h).p) ∧ W.cell? ⟨g, o + h * 6 + 4, none⟩ = some (.int .i64 (f h).q) ∧ W.cell? ⟨g, o + h * 6 + 5, none⟩ = some (.int .i64 (f h).d) ∧ W.cell? ⟨g, o + a * 6, none⟩ = some (.int .i64 (f a).k.T) ∧ W.cell? ⟨g, o + a * 6 + 1, none⟩ = some (.int .i64 (f a).k.O) ∧ W.cell? ⟨g, o + a * 6 + 2, none⟩ = some (.int .i64 (f a).k.S) ∧ W.cell? ⟨g, o + a * 6 + 3, none⟩ = some (.int .i64 (f a).p) ∧ W.cell? ⟨g, o + a * 6 + 4, none⟩ = some (.int .i64 (f a).q) ∧ W.cell? ⟨g, o + a * 6 + 5, none⟩ = some (.int .i64 (f a).d)) ((refine HSS.out _ ?_; repeat (first | assumption | exact Nw.refl wr | refine Nw.drew ?_))) ((go_at_call 10; refine (KB.out _).mono ?_; rintro r wz ⟨rfl, bz⟩; have iz : Nw wr wz := Nw.step (by first | assumption | exact (Nw.refl wr).drew) bz))
        all_goals
          go_wp2_with fail
          go_meet
          exact ⟨rfl, Lib.hid iz⟩
      case rest =>
        obtain ⟨rfl, HC⟩ := hcut
        clear HSS KB
        by_cases hC : C < 0
        · have hl := HCL.out.1 hC
          have HN : Hid (Nw w wc ∧ (∀ z, m ≤ z → z < h + 1 → (f z).k.less (f a).k = true) ∧ (∀ z, j ≤ z → z < b → (f z).k.less (f a).k = false)) := Lib.hid ⟨HI.out.1.step HC.out, fun z h1 h2 => Ky.le_less (HR.out.le h1 (by omega) (by omega)) hl, HI.out.2.2⟩
          clear hl
          go_wp2_with fail
          go_roundw
          case rel => exact ⟨h + 1, j, by omega, by omega, hjb, by go_num, rfl, HN⟩
          case measure => simp [intOf]; omega
        · have hl : (f h).k.less (f a).k = false := by rw [← Bool.not_eq_true]; exact fun q => hC (HCL.out.2 q)
          have HN : Hid (Nw w wc ∧ (∀ z, m ≤ z → z < i → (f z).k.less (f a).k = true) ∧ (∀ z, h ≤ z → z < b → (f z).k.less (f a).k = false)) := Lib.hid ⟨HI.out.1.step HC.out, HI.out.2.1, fun z h1 h2 => Ky.le_trans hl (HR.out.le (by omega) h1 h2)⟩
          clear hl
          go_wp2_with fail
          go_roundw
          case rel => exact ⟨i, h, hmi, hih, by omega, rfl, rfl, HN⟩
          case measure => simp [intOf]; omega
    · have g1 : ¬ (i : Int) < (j : Int) := by omega
      obtain rfl : i = j := by omega
      have wi : IntKind.i64.wrap ((i : Int) - 1) = (i : Int) - 1 := by rw [show (i : Int) - 1 = ((i - 1 : Nat) : Int) by omega]; exact wrap_nat (by omega)
      have HK0 : Hid (EvsAt wr g o n (rot f a (a + 1) (a + 1)) ∧ Chg (fun x => x = g) w wr) := Lib.hid ⟨by rw [rot_nil_right]; exact HA.out.new HI.out.1, Chg.of_below HI.out.1 (Nat.le_refl _) _⟩
      go_wp2_with fail
      go_loopw [13] (fun x wx => ∃ k : Nat, a ≤ k ∧ k + 1 ≤ i ∧ x = .int .i64 k ∧ Hid (EvsAt wx g o n (rot f a (a + 1) (k + 1)) ∧ Chg (fun x => x = g) w wx)) (fun x _ => n - (intOf x).toNat)
      case atStart => exact ⟨a, Nat.le_refl _, by omega, rfl, HK0⟩
      case round =>
        obtain ⟨k, hak, hki, rfl, HK⟩ := hrel
        by_cases hlt2 : k + 1 < i
        · have g4 : (k : Int) < (i : Int) - 1 := by omega
          obtain ⟨q, hq⟩ : ∃ q, q = k + 1 := ⟨_, rfl⟩
          have hJn : k < n := by omega
          have hmn : q < n := by omega
          have hne : q ≠ k := by omega
          have w2 : IntKind.i64.wrap ((k : Int) + 1) = (q : Int) := by rw [show (k : Int) + 1 = (q : Int) by omega]; exact wrap_nat (by omega)
          have gJ : (k : Int) < (n : Int) := by omega
          have gm : (q : Int) < (n : Int) := by omega
          obtain ⟨f2, hf2⟩ : ∃ f2, rot f a (a + 1) (k + 1) = f2 := ⟨_, rfl⟩
          have hB := HK.out.1
          rw [hf2] at hB
          have HQ := Lib.hid hq
          clear hq
          go_upto_region 11 with (fail)
          refine symSwap11 g o n c k q (f2 k).k.T (f2 k).k.O (f2 k).k.S (f2 k).p (f2 k).q (f2 k).d (f2 q).k.T (f2 q).k.O (f2 q).k.S (f2 q).p (f2 q).q (f2 q).d wr gJ gm w2 (hB.cells hJn) (hB.cells hmn) (hB.pair hJn hmn hne) (hB.open_ hJn) (hB.open_ hmn) _ ?_
          intro t61 t62 t63 t64 t65 t66 t67 t68 t69 t70 t71 t72 t73 t74 t75 t76
          have hsw := hB.swapped hJn hmn
          have hch := HK.out.2.swapped (o := o) (J := k) (m := q) (.int .i64 (f2 k).k.T) (.int .i64 (f2 k).k.O) (.int .i64 (f2 k).k.S) (.int .i64 (f2 k).p) (.int .i64 (f2 k).q) (.int .i64 (f2 k).d) (.int .i64 (f2 q).k.T) (.int .i64 (f2 q).k.O) (.int .i64 (f2 q).k.S) (.int .i64 (f2 q).p) (.int .i64 (f2 q).q) (.int .i64 (f2 q).d)
          have he : swp f2 q k = rot f a (a + 1) (k + 1 + 1) := by
            rw [swp_comm, HQ.out, ← hf2]; exact rot_ahead f hak
          rw [he] at hsw
          generalize World.drew _ = w9 at hsw hch ⊢
          have HN : Hid (EvsAt w9 g o n (rot f a (a + 1) (k + 1 + 1)) ∧ Chg (fun x => x = g) w w9) := Lib.hid ⟨hsw, hch⟩
          clear hsw hch he hB hf2
          go_wp2_with fail
          go_roundw
          case rel => exact ⟨k + 1, by omega, by omega, by rw [HQ.out], HN⟩
          case measure => simp [intOf]; have := HQ.out; omega
        · have g4 : ¬ (k : Int) < (i : Int) - 1 := by omega
          have hk : k + 1 = i := by omega
          have HKI := Lib.hid hk
          clear hk
          go_wp2_with fail
          refine bodyPost_ret (results_none rfl _ _ _) rfl ?_
          have hm := HM.out
          have hi := HI.out.2
          rw [hm] at hi hmi
          have hr := HR.out
          rw [hm] at hr
          have hk := HK.out
          rw [HKI.out] at hk
          obtain ⟨q1, q2⟩ := ins_first hmi hjb hr hi.1 hi.2
          exact ⟨rfl, _, hk.1, hk.2, q1, q2⟩
theorem sym_last (h : EvsAt w g o n f) (hb : b = m + 1) (ham : a + 1 < m) (hbn : b ≤ n) (hn : n ≤ 1000) (r1 : Rise f a m) :
    Calls Try.prog 31 #[.slice (some ⟨g, o, none⟩) n c, .int .i64 (a : Int), .int .i64 (m : Int), .int .i64 (b : Int), .func (.func 10) #[] #[]] w (SymOut w g o n a b f) := by
  have HA := Lib.hid h
  have HR := Lib.hid r1
  have HM := Lib.hid hb
  have w1 : IntKind.i64.wrap ((m : Int) - (a : Int)) = (m : Int) - (a : Int) := by rw [show (m : Int) - (a : Int) = ((m - a : Nat) : Int) by omega]; exact wrap_nat (by omega)
  have g0 : ((m : Int) - (a : Int) == 1) = false := by simp; omega
  have w2 : IntKind.i64.wrap ((b : Int) - (m : Int)) = 1 := by rw [show (b : Int) - (m : Int) = 1 by omega]; rfl
  have hXn : m < n := by omega
  have ga : (m : Int) < (n : Int) := by omega
  clear h r1 hb
  go_enter Try.func31, Try.ntmps31
  go_wp2_with fail
  go_loopw [14, 15] (fun x y wr => ∃ i j : Nat, a ≤ i ∧ i ≤ j ∧ j ≤ m ∧ x = .int .i64 i ∧ y = .int .i64 j ∧ Hid (Nw w wr ∧ (∀ z, a ≤ z → z < i → (f m).k.less (f z).k = false) ∧ (∀ z, j ≤ z → z < m → (f m).k.less (f z).k = true))) (fun x y _ => (intOf y).toNat - (intOf x).toNat)
  case atStart => exact ⟨a, m, Nat.le_refl _, by omega, Nat.le_refl _, rfl, rfl, Lib.hid ⟨Nw.refl w, fun z h1 h2 => by omega, fun z h1 h2 => by omega⟩⟩
  case round =>
    obtain ⟨i, j, hmi, hij, hjb, rfl, rfl, HI⟩ := hrel
    by_cases hlt : i < j
    · have g1 : (i : Int) < (j : Int) := by omega
      obtain ⟨h, hh⟩ : ∃ h, (i + j) / 2 = h := ⟨_, rfl⟩
      have hhi : ((i : Int) + (j : Int)) / 2 = (h : Int) := by omega
      have HH := Lib.hid hhi
      have hih : i ≤ h := by omega
      have hhj : h < j := by omega
      clear hhi hh
      have hA := HA.out.new HI.out.1
      have g2 : (0 : Int) ≤ (h : Int) := by omega
      have hYn : h < n := by omega
      have g3 : (h : Int) < (n : Int) := by omega
      go_upto_region 17 with (fail)
      rw [HH.out]
      obtain ⟨e0, e1, e2, e3, e4, e5⟩ := hA.cells hXn
      obtain ⟨d0, d1, d2, d3, d4, d5⟩ := hA.cells hYn
      have HSS := Lib.hid (fun W (hW : Nw wr W) => (⟨hW, hW.cell e0, hW.cell e1, hW.cell e2, hW.cell e3, hW.cell e4, hW.cell e5, hW.cell d0, hW.cell d1, hW.cell d2, hW.cell d3, hW.cell d4, hW.cell d5⟩ : Nw wr W ∧ W.cell? ⟨g, o + m * 6, none⟩ = some (.int .i64 (f m).k.T) ∧ W.cell? ⟨g, o + m * 6 + 1, none⟩ = some (.int .i64 (f m).k.O) ∧ W.cell? ⟨g, o + m * 6 + 2, none⟩ = some (.int .i64 (f m).k.S) ∧ W.cell? ⟨g, o + m * 6 + 3, none⟩ = some (.int .i64 (f m).p) ∧ W.cell? ⟨g, o + m * 6 + 4, none⟩ = some (.int .i64 (f m).q) ∧ W.cell? ⟨g, o + m * 6 + 5, none⟩ = some (.int .i64 (f m).d) ∧ W.cell? ⟨g, o + h * 6, none⟩ = some (.int .i64 (f h).k.T) ∧ W.cell? ⟨g, o + h * 6 + 1, none⟩ = some (.int .i64 (f h).k.O) ∧ W.cell? ⟨g, o + h * 6 + 2, none⟩ = some (.int .i64 (f h).k.S) ∧ W.cell? ⟨g, o + h * 6 + 3, none⟩ = some (.int .i64 (f h).p) ∧ W.cell? ⟨g, o + h * 6 + 4, none⟩ = some (.int .i64 (f h).q) ∧ W.cell? ⟨g, o + h * 6 + 5, none⟩ = some (.int .i64 (f h).d)))
      have KB := Lib.hid (fun W => byKey_any (f m).k (f h).k (f m).p (f m).q (f m).d (f h).p (f h).q (f h).d W)
      obtain ⟨C, hC⟩ : ∃ C, C = (f m).k.cmp (f h).k := ⟨_, rfl⟩
      rw [← hC] at KB
      have hcl := Ky.cmp_neg (f m).k (f h).k
      rw [← hC] at hcl
      have HCL := Lib.hid hcl
      clear hcl hC hA e0 e1 e2 e3 e4 e5 d0 d1 d2 d3 d4 d5
      go_cut [103] (fun v wx => v = .bool (decide (0 ≤ C)) ∧ Hid (Nw wr wx))
      case first =>
        go_region_held3 (fun W => Nw wr W ∧ W.cell? ⟨g, o + m * 6, none⟩ = some (.int .i64 (f m).k.T) ∧ W.cell? ⟨g, o + m * 6 + 1, none⟩ = some (.int .i64 (f m).k.O) ∧ W.cell? ⟨g, o + m * 6 + 2, none⟩ = some (.int .i64 (f m).k.S) ∧ W.cell? ⟨g, o + m * 6 + 3, none⟩ = some (.int .i64 (f m).p) ∧ W.cell? ⟨g, o + m * 6 + 4, none⟩ = some (.int .i64 (f m).q) ∧ W.cell? ⟨g, o + m * 6 + 5, none⟩ = some (.int .i64 (f m).d) ∧ W.cell? ⟨g, o + h * 6, none⟩ = some (.int .i64 (f h).k.T) ∧ W.cell? ⟨g, o + h * 6 + 1, none⟩ = some (.int .i64 (f h).k.O) ∧ W.cell? ⟨g, o + h * 6 + 2, none⟩ = some (.int .i64 (f h).k.S) ∧ W.cell? ⟨g, o + h * 6 + 3, none⟩ = some (.int .i64 (f h).p) ∧ W.cell? ⟨g, o + h * 6 + 4, none⟩ = some (.int .i64 (f h).q) ∧ W.cell? ⟨g, o + h * 6 + 5, none⟩ = some (.int .i64 (f h).d)) ((refine HSS.out _ ?_; repeat (first | assumption | exact Nw.refl wr | refine Nw.drew ?_))) ((go_at_call 10; refine (KB.out _).mono ?_; rintro r wz ⟨rfl, bz⟩; have iz : Nw wr wz := Nw.step (by first | assumption | exact (Nw.refl wr).drew) bz))
        all_goals
          go_wp2_with fail
          go_meet
          exact ⟨by congr 1; by_cases hC : C < 0 <;> simp [hC] <;> omega, Lib.hid iz⟩
      case rest =>
        obtain ⟨rfl, HC⟩ := hcut
        clear HSS KB
        by_cases hC : C < 0
        · have hl := HCL.out.1 hC
          have hC' : ¬ 0 ≤ C := by omega
          have HN : Hid (Nw w wc ∧ (∀ z, a ≤ z → z < i → (f m).k.less (f z).k = false) ∧ (∀ z, h ≤ z → z < m → (f m).k.less (f z).k = true)) := Lib.hid ⟨HI.out.1.step HC.out, HI.out.2.1, fun z h1 h2 => Ky.less_le hl (HR.out.le (by omega) h1 h2)⟩
          clear hl
          go_wp2_with fail
          go_roundw
          case rel => exact ⟨i, h, hmi, hih, by omega, rfl, rfl, HN⟩
          case measure => simp [intOf]; omega
        · have hC' : 0 ≤ C := by omega
          have hl : (f m).k.less (f h).k = false := by rw [← Bool.not_eq_true]; exact fun q => hC (HCL.out.2 q)
          have HN : Hid (Nw w wc ∧ (∀ z, a ≤ z → z < h + 1 → (f m).k.less (f z).k = false) ∧ (∀ z, j ≤ z → z < m → (f m).k.less (f z).k = true)) := Lib.hid ⟨HI.out.1.step HC.out, fun z h1 h2 => Ky.le_trans (HR.out.le h1 (by omega) (by omega)) hl, HI.out.2.2⟩
          clear hl
          go_wp2_with fail
          go_roundw
          case rel => exact ⟨h + 1, j, by omega, by omega, hjb, by go_num, rfl, HN⟩
          case measure => simp [intOf]; omega
    · have g1 : ¬ (i : Int) < (j : Int) := by omega
      obtain rfl : i = j := by omega
      have HK0 : Hid (EvsAt wr g o n (rot f m m (m + 1)) ∧ Chg (fun x => x = g) w wr) := Lib.hid ⟨by rw [rot_nil_left]; exact HA.out.new HI.out.1, Chg.of_below HI.out.1 (Nat.le_refl _) _⟩
      go_wp2_with fail
      go_loopw [17] (fun x wx => ∃ k : Nat, i ≤ k ∧ k ≤ m ∧ x = .int .i64 k ∧ Hid (EvsAt wx g o n (rot f k m (m + 1)) ∧ Chg (fun x => x = g) w wx)) (fun x _ => (intOf x).toNat)
      case atStart => exact ⟨m, hjb, Nat.le_refl _, rfl, HK0⟩
      case round =>
        obtain ⟨k, hik, hkm, rfl, HK⟩ := hrel
        by_cases hlt2 : i < k
        · have g4 : (i : Int) < (k : Int) := by omega
          obtain ⟨q, hq⟩ : ∃ q, k = q + 1 := ⟨k - 1, by omega⟩
          have hJn : k < n := by omega
          have hmn : q < n := by omega
          have hne : q ≠ k := by omega
          have w3 : IntKind.i64.wrap ((k : Int) - 1) = (q : Int) := by rw [show (k : Int) - 1 = (q : Int) by omega]; exact wrap_nat (by omega)
          have gJ : (k : Int) < (n : Int) := by omega
          have gm : (q : Int) < (n : Int) := by omega
          obtain ⟨f2, hf2⟩ : ∃ f2, rot f k m (m + 1) = f2 := ⟨_, rfl⟩
          have hB := HK.out.1
          rw [hf2] at hB
          have HQ := Lib.hid hq
          clear hq
          go_upto_region 23 with (fail)
          refine symSwap23 g o n c k q (f2 k).k.T (f2 k).k.O (f2 k).k.S (f2 k).p (f2 k).q (f2 k).d (f2 q).k.T (f2 q).k.O (f2 q).k.S (f2 q).p (f2 q).q (f2 q).d wr gJ gm w3 (hB.cells hJn) (hB.cells hmn) (hB.pair hJn hmn hne) (hB.open_ hJn) (hB.open_ hmn) _ ?_
          intro t113 t114 t115 t116 t117 t118 t119 t120 t121 t122 t123 t124 t125 t126 t127 t128
          have hsw := hB.swapped hJn hmn
          have hch := HK.out.2.swapped (o := o) (J := k) (m := q) (.int .i64 (f2 k).k.T) (.int .i64 (f2 k).k.O) (.int .i64 (f2 k).k.S) (.int .i64 (f2 k).p) (.int .i64 (f2 k).q) (.int .i64 (f2 k).d) (.int .i64 (f2 q).k.T) (.int .i64 (f2 q).k.O) (.int .i64 (f2 q).k.S) (.int .i64 (f2 q).p) (.int .i64 (f2 q).q) (.int .i64 (f2 q).d)
          have he : swp f2 q k = rot f q m (m + 1) := by
            rw [← hf2, HQ.out]; exact rot_back f (by have := HQ.out; omega)
          rw [he] at hsw
          generalize World.drew _ = w9 at hsw hch ⊢
          have HN : Hid (EvsAt w9 g o n (rot f q m (m + 1)) ∧ Chg (fun x => x = g) w w9) := Lib.hid ⟨hsw, hch⟩
          clear hsw hch he hB hf2
          go_wp2_with fail
          go_roundw
          case rel => exact ⟨q, by have := HQ.out; omega, by have := HQ.out; omega, rfl, HN⟩
          case measure => simp [intOf]; have := HQ.out; omega
        · have g4 : ¬ (i : Int) < (k : Int) := by omega
          obtain rfl : i = k := by omega
          go_wp2_with fail
          refine bodyPost_ret (results_none rfl _ _ _) rfl ?_
          obtain ⟨q1, q2⟩ := ins_last hmi hjb HR.out HI.out.2.1 HI.out.2.2
          rw [← HM.out] at q1 q2
          have hk := HK.out
          rw [← HM.out] at hk
          exact ⟨rfl, _, hk.1, hk.2, q1, q2⟩
set_option maxHeartbeats 40000000 in
theorem sym_mid (h : EvsAt w g o n f) (ham : a + 1 < m) (hmb : m + 1 < b) (hbn : b ≤ n) (hn : n ≤ 1000) (r1 : Rise f a m) (r2 : Rise f m b)
    (IH : ∀ (a' m' b' : Nat) (f' : Nat → Ev) (W : World), b' - a' < b - a → EvsAt W g o n f' → a' < m' → m' < b' → b' ≤ n → Rise f' a' m' → Rise f' m' b' → Calls Try.prog 31 #[.slice (some ⟨g, o, none⟩) n c, .int .i64 (a' : Int), .int .i64 (m' : Int), .int .i64 (b' : Int), .func (.func 10) #[] #[]] W (SymOut W g o n a' b' f')) :
    Calls Try.prog 31 #[.slice (some ⟨g, o, none⟩) n c, .int .i64 (a : Int), .int .i64 (m : Int), .int .i64 (b : Int), .func (.func 10) #[] #[]] w (SymOut w g o n a b f) := by
  have HA := Lib.hid h
  have HR1 := Lib.hid r1
  have HR2 := Lib.hid r2
  have KI := Lib.hid IH
  have w1 : IntKind.i64.wrap ((m : Int) - (a : Int)) = (m : Int) - (a : Int) := by rw [show (m : Int) - (a : Int) = ((m - a : Nat) : Int) by omega]; exact wrap_nat (by omega)
  have g0 : ((m : Int) - (a : Int) == 1) = false := by simp; omega
  have w2 : IntKind.i64.wrap ((b : Int) - (m : Int)) = (b : Int) - (m : Int) := by rw [show (b : Int) - (m : Int) = ((b - m : Nat) : Int) by omega]; exact wrap_nat (by omega)
  have g0' : ((b : Int) - (m : Int) == 1) = false := by simp; omega
  obtain ⟨d, hd⟩ : ∃ d, (a + b) / 2 = d := ⟨_, rfl⟩
  have hdi : ((a : Int) + (b : Int)) / 2 = (d : Int) := by omega
  have had : a < d := by omega
  have hdb : d < b := by omega
  obtain ⟨N, hN⟩ : ∃ N, N = d + m := ⟨_, rfl⟩
  obtain ⟨p, hp⟩ : ∃ p, p = N - 1 := ⟨_, rfl⟩
  have w3 : IntKind.i64.wrap ((d : Int) + (m : Int)) = (N : Int) := by rw [hN]; exact wrap_add (by omega)
  have w4 : IntKind.i64.wrap ((N : Int) - 1) = (p : Int) := by rw [show (N : Int) - 1 = (p : Int) by omega]; exact wrap_nat (by omega)
  have HDI := Lib.hid hdi
  have HD := Lib.hid hd
  have HN := Lib.hid hN
  have HP := Lib.hid hp
  clear h r1 r2 IH hdi hd hN hp
  go_enter Try.func31, Try.ntmps31
  go_upto_region 25 with (fail)
  rw [HDI.out]
  go_upto_if 140 with (fail)
  go_cut [20, 21] (fun x y wx => ∃ s0 r0 : Nat, x = .int .i64 s0 ∧ y = .int .i64 r0 ∧ Hid (((d < m ∧ s0 = N - b ∧ r0 = d ∧ a + b ≤ N) ∨ (m ≤ d ∧ s0 = a ∧ r0 = m ∧ N ≤ a + b)) ∧ Nw w wx))
  case first =>
    as_aux_lemma =>
      by_cases hdm : d < m
      · have gd : (d : Int) < (m : Int) := by omega
        obtain ⟨q, hq⟩ : ∃ q, q = N - b := ⟨_, rfl⟩
        have w5 : IntKind.i64.wrap ((N : Int) - (b : Int)) = (q : Int) := by rw [hq]; exact wrap_sub (by have := HN.out; have := HD.out; omega) (by have := HN.out; omega)
        have HQ := Lib.hid hq
        clear hq
        go_wp2_with fail
        go_meet
        exact ⟨q, d, rfl, rfl, Lib.hid ⟨.inl ⟨hdm, HQ.out, rfl, by have := HN.out; have := HD.out; omega⟩, Nw.refl w⟩⟩
      · have gd : ¬ (d : Int) < (m : Int) := by omega
        go_wp2_with fail
        go_meet
        exact ⟨a, m, rfl, rfl, Lib.hid ⟨.inr ⟨by omega, rfl, rfl, by have := HN.out; have := HD.out; omega⟩, Nw.refl w⟩⟩
  case rest =>
    as_aux_lemma =>
      obtain ⟨s0, r0, rfl, rfl, H0⟩ := hcut
      have h00 : s0 ≤ r0 := by have := H0.out.1; have := HN.out; have := HD.out; omega
      have h01 : r0 ≤ m := by have := H0.out.1; omega
      have hm9 : m ≤ 1000 := by omega
      have HRG : Hid (∀ z, s0 ≤ z → z < r0 → a ≤ z ∧ z < m ∧ m ≤ N - 1 - z ∧ N - 1 - z < b) := Lib.hid fun z h1 h2 => by have := H0.out.1; have := HN.out; have := HD.out; omega
      go_wp2_with fail
      go_loopw [20, 21] (fun x y wr => ∃ i j : Nat, s0 ≤ i ∧ i ≤ j ∧ j ≤ r0 ∧ x = .int .i64 i ∧ y = .int .i64 j ∧ Hid (Nw w wr ∧ (∀ z, s0 ≤ z → z < i → (f (N - 1 - z)).k.less (f z).k = false) ∧ (∀ z, j ≤ z → z < r0 → (f (N - 1 - z)).k.less (f z).k = true))) (fun x y _ => (intOf y).toNat - (intOf x).toNat)
      case atStart => exact ⟨s0, r0, Nat.le_refl _, h00, Nat.le_refl _, rfl, rfl, Lib.hid ⟨H0.out.2, fun z h1 h2 => by omega, fun z h1 h2 => by omega⟩⟩
      case round =>
        as_aux_lemma =>
          obtain ⟨i, j, hmi, hij, hjb, rfl, rfl, HI⟩ := hrel
          by_cases hlt : i < j
          · have g1 : (i : Int) < (j : Int) := by omega
            obtain ⟨h, hh⟩ : ∃ h, (i + j) / 2 = h := ⟨_, rfl⟩
            have hhi : ((i : Int) + (j : Int)) / 2 = (h : Int) := by omega
            have HH := Lib.hid hhi
            have hih : i ≤ h := by omega
            have hhj : h < j := by omega
            clear hhi hh
            have hA := HA.out.new HI.out.1
            have g2 : (0 : Int) ≤ (h : Int) := by omega
            obtain ⟨x, hx⟩ : ∃ x, x = N - 1 - h := ⟨_, rfl⟩
            have hrg := HRG.out h (by omega) (by omega)
            have hXn : x < n := by omega
            have hYn : h < n := by omega
            have g3 : (h : Int) < (n : Int) := by omega
            have g4 : (x : Int) < (n : Int) := by omega
            have g5 : (0 : Int) ≤ (x : Int) := by omega
            have w6 : IntKind.i64.wrap ((p : Int) - (h : Int)) = (x : Int) := by have := HP.out; rw [show (p : Int) - (h : Int) = (x : Int) by omega]; exact wrap_nat (by omega)
            have HX := Lib.hid hx
            clear hx hrg
            go_upto_region 35 with (fail)
            rw [HH.out]
            obtain ⟨e0, e1, e2, e3, e4, e5⟩ := hA.cells hXn
            obtain ⟨d0, d1, d2, d3, d4, d5⟩ := hA.cells hYn
            have HSS := Lib.hid (fun W (hW : Nw wr W) => (⟨hW, hW.cell e0, hW.cell e1, hW.cell e2, hW.cell e3, hW.cell e4, hW.cell e5, hW.cell d0, hW.cell d1, hW.cell d2, hW.cell d3, hW.cell d4, hW.cell d5⟩ : Nw wr W ∧ W.cell? ⟨g, o + x * 6, none⟩ = some (.int .i64 (f x).k.T) ∧ W.cell? ⟨g, o + x * 6 + 1, none⟩ = some (.int .i64 (f x).k.O) ∧ W.cell? ⟨g, o + x * 6 + 2, none⟩ = some (.int .i64 (f x).k.S) ∧ W.cell? ⟨g, o + x * 6 + 3, none⟩ = some (.int .i64 (f x).p) ∧ W.cell? ⟨g, o + x * 6 + 4, none⟩ = some (.int .i64 (f x).q) ∧ W.cell? ⟨g, o + x * 6 + 5, none⟩ = some (.int .i64 (f x).d) ∧ W.cell? ⟨g, o + h * 6, none⟩ = some (.int .i64 (f h).k.T) ∧ W.cell? ⟨g, o + h * 6 + 1, none⟩ = some (.int .i64 (f h).k.O) ∧ W.cell? ⟨g, o + h * 6 + 2, none⟩ = some (.int .i64 (f h).k.S) ∧ W.cell? ⟨g, o + h * 6 + 3, none⟩ = some (.int .i64 (f h).p) ∧ W.cell? ⟨g, o + h * 6 + 4, none⟩ = some (.int .i64 (f h).q) ∧ W.cell? ⟨g, o + h * 6 + 5, none⟩ = some (.int .i64 (f h).d)))
            have KB := Lib.hid (fun W => byKey_any (f x).k (f h).k (f x).p (f x).q (f x).d (f h).p (f h).q (f h).d W)
            obtain ⟨C, hC⟩ : ∃ C, C = (f x).k.cmp (f h).k := ⟨_, rfl⟩
            rw [← hC] at KB
            have hcl := Ky.cmp_neg (f x).k (f h).k
            rw [← hC] at hcl
            have HCL := Lib.hid hcl
            clear hcl hC hA e0 e1 e2 e3 e4 e5 d0 d1 d2 d3 d4 d5
            go_cut [171] (fun v wx => v = .bool (decide (0 ≤ C)) ∧ Hid (Nw wr wx))
            case first =>
              as_aux_lemma =>
                go_region_held3 (fun W => Nw wr W ∧ W.cell? ⟨g, o + x * 6, none⟩ = some (.int .i64 (f x).k.T) ∧ W.cell? ⟨g, o + x * 6 + 1, none⟩ = some (.int .i64 (f x).k.O) ∧ W.cell? ⟨g, o + x * 6 + 2, none⟩ = some (.int .i64 (f x).k.S) ∧ W.cell? ⟨g, o + x * 6 + 3, none⟩ = some (.int .i64 (f x).p) ∧ W.cell? ⟨g, o + x * 6 + 4, none⟩ = some (.int .i64 (f x).q) ∧ W.cell? ⟨g, o + x * 6 + 5, none⟩ = some (.int .i64 (f x).d) ∧ W.cell? ⟨g, o + h * 6, none⟩ = some (.int .i64 (f h).k.T) ∧ W.cell? ⟨g, o + h * 6 + 1, none⟩ = some (.int .i64 (f h).k.O) ∧ W.cell? ⟨g, o + h * 6 + 2, none⟩ = some (.int .i64 (f h).k.S) ∧ W.cell? ⟨g, o + h * 6 + 3, none⟩ = some (.int .i64 (f h).p) ∧ W.cell? ⟨g, o + h * 6 + 4, none⟩ = some (.int .i64 (f h).q) ∧ W.cell? ⟨g, o + h * 6 + 5, none⟩ = some (.int .i64 (f h).d)) ((refine HSS.out _ ?_; repeat (first | assumption | exact Nw.refl wr | refine Nw.drew ?_))) ((go_at_call 10; refine (KB.out _).mono ?_; rintro r wz ⟨rfl, bz⟩; have iz : Nw wr wz := Nw.step (by first | assumption | exact (Nw.refl wr).drew) bz))
                all_goals
                  go_wp2_with fail
                  go_meet
                  exact ⟨by congr 1; by_cases hC : C < 0 <;> simp [hC] <;> omega, Lib.hid iz⟩
            case rest =>
              as_aux_lemma =>
                obtain ⟨rfl, HC⟩ := hcut
                clear HSS KB
                by_cases hC : C < 0
                · have hC' : ¬ 0 ≤ C := by omega
                  have hl := HCL.out.1 hC
                  have HJ : Hid (Nw w wc ∧ (∀ z, s0 ≤ z → z < i → (f (N - 1 - z)).k.less (f z).k = false) ∧ (∀ z, h ≤ z → z < r0 → (f (N - 1 - z)).k.less (f z).k = true)) := Lib.hid ⟨HI.out.1.step HC.out, HI.out.2.1, fun z h1 h2 => by
                    obtain ⟨z1, z2, z3, z4⟩ := HRG.out z (by omega) h2
                    obtain ⟨y1, y2, y3, y4⟩ := HRG.out h (by omega) (by omega)
                    have hx := HX.out
                    exact Ky.less_le (Ky.le_less (HR2.out.le (p := N - 1 - z) (q := x) z3 (by omega) (by omega)) hl) (HR1.out.le y1 h1 z2)⟩
                  clear hl
                  go_wp2_with fail
                  go_roundw
                  case rel => exact ⟨i, h, hmi, hih, by omega, rfl, rfl, HJ⟩
                  case measure => simp [intOf]; omega
                · have hC' : 0 ≤ C := by omega
                  have hl : (f x).k.less (f h).k = false := by rw [← Bool.not_eq_true]; exact fun q => hC (HCL.out.2 q)
                  have HJ : Hid (Nw w wc ∧ (∀ z, s0 ≤ z → z < h + 1 → (f (N - 1 - z)).k.less (f z).k = false) ∧ (∀ z, j ≤ z → z < r0 → (f (N - 1 - z)).k.less (f z).k = true)) := Lib.hid ⟨HI.out.1.step HC.out, fun z h1 h2 => by
                    obtain ⟨z1, z2, z3, z4⟩ := HRG.out z h1 (by omega)
                    obtain ⟨y1, y2, y3, y4⟩ := HRG.out h (by omega) (by omega)
                    have hx := HX.out
                    exact Ky.le_trans (HR1.out.le (p := z) (q := h) z1 (by omega) y2) (Ky.le_trans hl (HR2.out.le (p := x) (q := N - 1 - z) (by omega) (by omega) z4)), HI.out.2.2⟩
                  clear hl
                  go_wp2_with fail
                  go_roundw
                  case rel => exact ⟨h + 1, j, by omega, by omega, hjb, by go_num, rfl, HJ⟩
                  case measure => simp [intOf]; omega
          · have g1 : ¬ (i : Int) < (j : Int) := by omega
            obtain rfl : i = j := by omega
            obtain ⟨f1, f2, f3, f4, f5, f6, f7⟩ := sym_found HR1.out HR2.out (by omega) (by omega) HN.out (by omega) H0.out.1 hmi hjb HI.out.2.1 (fun q => HI.out.2.2 i (Nat.le_refl _) q)
            obtain ⟨e, he⟩ : ∃ e, e = N - i := ⟨_, rfl⟩
            rw [← he] at f3 f4 f5 f6 f7
            have HRR := Lib.hid (rot_rise f1 f2 f3 f4 f5 HR1.out HR2.out)
            have HF := Lib.hid (⟨f5, f6, f7⟩ : _ ∧ _ ∧ _)
            have hid : i ≤ d := by omega
            have hde : d ≤ e := by omega
            have hdm : d - i = e - m := by omega
            have w7 : IntKind.i64.wrap ((N : Int) - (i : Int)) = (e : Int) := by rw [he]; exact wrap_sub (by omega) (by have := HN.out; omega)
            have HE := Lib.hid he
            clear f5 f6 f7 he
            go_upto_region 39 with (fail)
            go_cut [185] (fun v wx => v = .bool (decide (i < m ∧ m < e)) ∧ Hid (Nw w wx))
            case first =>
              as_aux_lemma =>
                by_cases hs : i < m
                · have gs : (i : Int) < (m : Int) := by omega
                  by_cases ht : m < e
                  · have gt : (m : Int) < (e : Int) := by omega
                    go_wp2_with fail
                    go_meet
                    exact ⟨by simp [hs, ht], Lib.hid HI.out.1⟩
                  · have gt : ¬ (m : Int) < (e : Int) := by omega
                    go_wp2_with fail
                    go_meet
                    exact ⟨by simp [hs, ht], Lib.hid HI.out.1⟩
                · have gs : ¬ (i : Int) < (m : Int) := by omega
                  go_wp2_with fail
                  go_meet
                  exact ⟨by simp [hs], Lib.hid HI.out.1⟩
            case rest =>
              as_aux_lemma =>
                obtain ⟨rfl, HW⟩ := hcut
                go_upto_if 185 with (fail)
                go_cut [] (fun wx => Hid (EvsAt wx g o n (rot f i m e) ∧ Chg (fun x => x = g) w wx))
                case first =>
                  as_aux_lemma =>
                    by_cases hst : i < m ∧ m < e
                    · have KR := Lib.hid (rotate_any g o n c i m e f wc (HA.out.new HW.out) hst.1 hst.2 (by omega) hn)
                      have gd : decide (i < m ∧ m < e) = true := decide_eq_true hst
                      rw [gd]
                      clear gd hst
                      go_wp2_with fail
                      refine KR.out.mono ?_
                      rintro r w9 ⟨rfl, h1, h2⟩
                      have HZ : Hid (EvsAt w9 g o n (rot f i m e) ∧ Chg (fun x => x = g) w w9) := Lib.hid ⟨h1, (Chg.of_below HW.out (Nat.le_refl _) _).trans h2 fun _ _ q => q⟩
                      clear h1 h2
                      go_wp2_with fail
                      go_meet
                      exact HZ
                    · have HZ : Hid (EvsAt wc g o n (rot f i m e) ∧ Chg (fun x => x = g) w wc) := Lib.hid ⟨by
                        rcases (by omega : i = m ∨ e = m) with q | q
                        · rw [q, rot_nil_left]; exact HA.out.new HW.out
                        · rw [q, rot_nil_right]; exact HA.out.new HW.out, Chg.of_below HW.out (Nat.le_refl _) _⟩
                      have gd : decide (i < m ∧ m < e) = false := decide_eq_false hst
                      rw [gd]
                      clear gd hst
                      go_wp2_with fail
                      go_meet
                      exact HZ
                case rest =>
                  as_aux_lemma =>
                    have HC := hcut
                    clear hcut HW
                    go_upto_region 41 with (fail)
                    go_cut [199] (fun v wx => v = .bool (decide (a < i ∧ i < d)) ∧ Hid (EvsAt wx g o n (rot f i m e) ∧ Chg (fun x => x = g) w wx))
                    case first =>
                      as_aux_lemma =>
                        by_cases hs : a < i
                        · have gs : (a : Int) < (i : Int) := by omega
                          by_cases ht : i < d
                          · have gt : (i : Int) < (d : Int) := by omega
                            go_wp2_with fail
                            go_meet
                            exact ⟨by simp [hs, ht], HC⟩
                          · have gt : ¬ (i : Int) < (d : Int) := by omega
                            go_wp2_with fail
                            go_meet
                            exact ⟨by simp [hs, ht], HC⟩
                        · have gs : ¬ (a : Int) < (i : Int) := by omega
                          go_wp2_with fail
                          go_meet
                          exact ⟨by simp [hs], HC⟩
                    case rest =>
                      as_aux_lemma =>
                        obtain ⟨rfl, HC⟩ := hcut
                        go_upto_if 199 with (fail)
                        go_cut [] (fun wx => ∃ f', Hid (EvsAt wx g o n f' ∧ Chg (fun x => x = g) w wx ∧ Mgd (rot f i m e) f' a d ∧ Rise f' a d))
                        case first =>
                          as_aux_lemma =>
                            by_cases hst : a < i ∧ i < d
                            · have KR := Lib.hid (KI.out a i d _ wc (by omega) HC.out.1 hst.1 hst.2 (by omega) HRR.out.1 HRR.out.2.1)
                              have gd : decide (a < i ∧ i < d) = true := decide_eq_true hst
                              rw [gd]
                              clear gd hst
                              go_wp2_with fail
                              refine KR.out.mono ?_
                              rintro r w9 ⟨rfl, f', h1, h2, h3, h4⟩
                              have HZ : Hid (EvsAt w9 g o n f' ∧ Chg (fun x => x = g) w w9 ∧ Mgd (rot f i m e) f' a d ∧ Rise f' a d) := Lib.hid ⟨h1, HC.out.2.trans h2 fun _ _ q => q, h3, h4⟩
                              clear h1 h2 h3 h4
                              go_wp2_with fail
                              go_meet
                              exact ⟨f', HZ⟩
                            · have HZ : Hid (EvsAt wc g o n (rot f i m e) ∧ Chg (fun x => x = g) w wc ∧ Mgd (rot f i m e) (rot f i m e) a d ∧ Rise (rot f i m e) a d) := Lib.hid ⟨HC.out.1, HC.out.2, Mgd.refl _ _ _, by
                                rcases (by omega : a = i ∨ d = i) with q | q
                                · exact HRR.out.2.1.wide (by omega) (Nat.le_refl _)
                                · exact HRR.out.1.wide (Nat.le_refl _) (by omega)⟩
                              have gd : decide (a < i ∧ i < d) = false := decide_eq_false hst
                              rw [gd]
                              clear gd hst
                              go_wp2_with fail
                              go_meet
                              exact ⟨_, HZ⟩
                        case rest =>
                          as_aux_lemma =>
                            clear HC
                            obtain ⟨f', HC⟩ := hcut
                            have hde' := HRR.out.2.2.1.congr (fun z h1 h2 => HC.out.2.2.1.out z (.inr h1))
                            have heb' := HRR.out.2.2.2.congr (fun z h1 h2 => HC.out.2.2.1.out z (.inr (by omega)))
                            have HDE := Lib.hid hde'
                            have HEB := Lib.hid heb'
                            clear hde' heb'
                            by_cases hs : d < e
                            · have gs : (d : Int) < (e : Int) := by omega
                              by_cases ht : e < b
                              · have gt : (e : Int) < (b : Int) := by omega
                                have KR := Lib.hid (KI.out d e b f' wc (by omega) HC.out.1 hs ht hbn HDE.out HEB.out)
                                go_wp2_with fail
                                refine KR.out.mono ?_
                                rintro r w9 ⟨rfl, f'', h1, h2, h3, h4⟩
                                go_wp2_with fail
                                go_end0
                                obtain ⟨q1, q2⟩ := merge_join f1 f2 f3 f4 HF.out.1 HR1.out HR2.out HF.out.2.1 HF.out.2.2 HC.out.2.2.1 HC.out.2.2.2 h3 h4
                                exact ⟨rfl, f'', h1, HC.out.2.1.trans h2 (fun _ _ q => q), q1, q2⟩
                              · have gt : ¬ (e : Int) < (b : Int) := by omega
                                go_wp2_with fail
                                go_end0
                                obtain ⟨q1, q2⟩ := merge_join f1 f2 f3 f4 HF.out.1 HR1.out HR2.out HF.out.2.1 HF.out.2.2 HC.out.2.2.1 HC.out.2.2.2 (Mgd.refl f' d b) (HDE.out.wide (Nat.le_refl _) (by omega))
                                exact ⟨rfl, f', HC.out.1, HC.out.2.1, q1, q2⟩
                            · have gs : ¬ (d : Int) < (e : Int) := by omega
                              go_wp2_with fail
                              go_end0
                              obtain ⟨q1, q2⟩ := merge_join f1 f2 f3 f4 HF.out.1 HR1.out HR2.out HF.out.2.1 HF.out.2.2 HC.out.2.2.1 HC.out.2.2.2 (Mgd.refl f' d b) (HEB.out.wide (by omega) (Nat.le_refl _))
                              exact ⟨rfl, f', HC.out.1, HC.out.2.1, q1, q2⟩
omit a m b f w in
theorem sym_all (hn : n ≤ 1000) : ∀ (N a m b : Nat) (f : Nat → Ev) (w : World), b - a ≤ N → EvsAt w g o n f → a < m → m < b → b ≤ n → Rise f a m → Rise f m b → Calls Try.prog 31 #[.slice (some ⟨g, o, none⟩) n c, .int .i64 (a : Int), .int .i64 (m : Int), .int .i64 (b : Int), .func (.func 10) #[] #[]] w (SymOut w g o n a b f)
  | 0, a, m, b, f, w, hN, _, h1, h2, _, _, _ => by omega
  | N + 1, a, m, b, f, w, hN, h, h1, h2, h3, r1, r2 => by
    by_cases hm : m = a + 1
    · exact sym_one g o n c a m b f w h hm h2 h3 hn r2
    · by_cases hb : b = m + 1
      · exact sym_last g o n c a m b f w h hb (by omega) h3 hn r1
      · exact sym_mid g o n c a m b f w h (by omega) (by omega) h3 hn r1 r2 fun a' m' b' f' W q1 q2 q3 q4 q5 q6 q7 => sym_all hn N a' m' b' f' W (by omega) q2 q3 q4 q5 q6 q7
theorem sym_any (h : EvsAt w g o n f) (h1 : a < m) (h2 : m < b) (h3 : b ≤ n) (hn : n ≤ 1000) (r1 : Rise f a m) (r2 : Rise f m b) : Calls Try.prog 31 #[.slice (some ⟨g, o, none⟩) n c, .int .i64 (a : Int), .int .i64 (m : Int), .int .i64 (b : Int), .func (.func 10) #[] #[]] w (SymOut w g o n a b f) :=
  sym_all g o n c hn (b - a) a m b f w (Nat.le_refl _) h h1 h2 h3 r1 r2
end
end Go.Proofs.Ytefgpnalahijgaa
