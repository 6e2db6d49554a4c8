/- The insertion sort of events by their keys. Helper. -/
import Derived.Test.YtefgpnalahijgaaOrdUniq
import Derived.Test.YtefgpnalahijgaaOrdSwap
import Derived.Deep.QuietTactic
import Derived.BigQuiet
namespace Go.Proofs.Ytefgpnalahijgaa
open Go.RowKit
set_option linter.unusedVariables false
set_option linter.unusedSimpArgs false
/-- What the sort leaves. -/
def Insd (w w' : World) (g o n a b : Nat) (f : Nat → Ev) (f' : Nat → Ev) : Prop :=
  EvsAt w' g o n f' ∧ Kept n f f' ∧ (∀ i, i < a ∨ b ≤ i → f' i = f i) ∧ Chg (fun k => k = g) w w'
theorem Insd.new {w w1 w2 : World} {g o n a b : Nat} {f f' : Nat → Ev} (h : Insd w w1 g o n a b f f') (hB : Below w1.heap.size w1 w2) : Insd w w2 g o n a b f f' :=
  ⟨h.1.new hB, h.2.1, h.2.2.1, h.2.2.2.trans (Chg.of_below hB (Nat.le_refl _) (fun k => k = g)) (fun i _ h => h)⟩
theorem Insd.many {w w1 : World} {g o n a b : Nat} {f f' : Nat → Ev} (h : Insd w w1 g o n a b f f') (q : Nat) : Insd w (w1.drewN q) g o n a b f f' := h.new (Below.many (Below.refl _ _) q)
theorem Insd.swp {w w1 : World} {g o n a b J m : Nat} {f f2 : Nat → Ev} (h : Insd w w1 g o n a b f f2) (hm : m < n) (hJ : J < n) (e : J = m + 1) (ha : a ≤ m) (hb : J < b) (hl : (f2 J).k.less (f2 m).k = true) :
    Insd w (((w1.setCells g (o + J * 6) (f2 m).c).setCells g (o + m * 6) (f2 J).c).drew) g o n a b f (swp f2 m J) := by
  refine ⟨(h.1.swap hm hJ).drew, h.2.1.trans ?_, fun i hi => ?_, ?_⟩
  · subst e
    refine Kept.swap (fun hk => ?_) n hJ
    rw [hk, Ky.less_irrefl] at hl
    cases hl
  · rw [← h.2.2.1 i hi]
    unfold Go.Proofs.Ytefgpnalahijgaa.swp
    rw [if_neg (by omega), if_neg (by omega)]
  · exact (((((((((((((h.2.2.2.setCell (p := ⟨g, _, none⟩) (.inl rfl) _).setCell (p := ⟨g, _, none⟩) (.inl rfl) _).setCell (p := ⟨g, _, none⟩) (.inl rfl) _).setCell (p := ⟨g, _, none⟩) (.inl rfl) _).setCell (p := ⟨g, _, none⟩) (.inl rfl) _).setCell (p := ⟨g, _, none⟩) (.inl rfl) _).setCell (p := ⟨g, _, none⟩) (.inl rfl) _).setCell (p := ⟨g, _, none⟩) (.inl rfl) _).setCell (p := ⟨g, _, none⟩) (.inl rfl) _).setCell (p := ⟨g, _, none⟩) (.inl rfl) _).setCell (p := ⟨g, _, none⟩) (.inl rfl) _).setCell (p := ⟨g, _, none⟩) (.inl rfl) _)).drew
set_option maxHeartbeats 1600000 in
set_option maxRecDepth 100000 in
theorem ins_any (g o n a b c : Nat) (f : Nat → Ev) (w : World) (h : EvsAt w g o n f) (hab : a ≤ b) (hb : b ≤ n) (hn : n ≤ 1000) :
    Calls Try.prog 30 #[.slice (some ⟨g, o, none⟩) n c, .int .i64 (a : Int), .int .i64 (b : Int), .func (.func 10) #[] #[]] w fun e w' => e = .returned (.tuple #[]) ∧ ∃ f', Insd w w' g o n a b f f' ∧ Rise f' a b := by
  go_enter Try.func30, Try.ntmps30
  go_wp2
  go_loopw [8] (fun i wr => ∃ (k : Nat) (f' : Nat → Ev), a + 1 ≤ k ∧ (k ≤ a + 1 ∨ k ≤ b) ∧ i = .int .i64 k ∧ Insd w wr g o n a b f f' ∧ Rise f' a k) (fun i _ => n + 1 - (intOf i).toNat)
  case atStart => exact ⟨a + 1, f, by omega, by omega, by go_num, ⟨h, Kept.refl _ _, fun _ _ => rfl, Chg.refl _ _⟩, fun p q h1 h2 h3 => by omega⟩
  case round =>
    obtain ⟨k, f1, hk1, hk2, rfl, hi, hr⟩ := hrel
    by_cases hlt : k < b
    · go_wp2
      go_loopw [9] (fun j wx => ∃ (m : Nat) (f2 : Nat → Ev), a ≤ m ∧ m ≤ k ∧ j = .int .i64 m ∧ Insd w wx g o n a b f f2 ∧ Near f2 a k m) (fun j _ => (intOf j).toNat)
      case atStart => exact ⟨k, f1, by omega, by omega, rfl, hi, Near.start hr⟩
      case round =>
        obtain ⟨m, f2, hm1, hm2, rfl, hi2, hn2⟩ := hrel
        have hg2 : g < wr.heap.size := World.block_lt_of_cell? wr _ (hi2.1.cell k (by omega) 0 (by decide))
        by_cases ham : a < m
        · obtain ⟨J, hJ⟩ : ∃ J, J = m := ⟨m, rfl⟩
          obtain ⟨m, rfl⟩ : ∃ m', m = m' + 1 := ⟨m - 1, by omega⟩
          have hJn : J < n := by omega
          have hmn : m < n := by omega
          obtain ⟨c0, c1, c2, c3, c4, c5⟩ := hi2.1.cells hJn
          obtain ⟨d0, d1, d2, d3, d4, d5⟩ := hi2.1.cells hmn
          rw [← hJ] at ham hm2 hn2 ⊢
          have w0 : ((J : Int) - 1) = (m : Int) := by omega
          have w1' : IntKind.i64.wrap ((J : Int) - 1) = (m : Int) := by rw [w0]; exact IntWalk.i64_in (n := (m : Int)) (by constructor <;> omega)
          have ga : decide ((a : Int) < (J : Int)) = true := by simp; omega
          have ga' : decide (a < J) = true := by simp; omega
          have gJ : (J : Int) < (n : Int) := by omega
          have gm : (m : Int) < (n : Int) := by omega
          have hss : ∀ W, Nw wr W → Nw wr W ∧ W.cell? ⟨g, o + J * 6, none⟩ = some (.int .i64 (f2 J).k.T) ∧ W.cell? ⟨g, o + J * 6 + 1, none⟩ = some (.int .i64 (f2 J).k.O) ∧ W.cell? ⟨g, o + J * 6 + 2, none⟩ = some (.int .i64 (f2 J).k.S) ∧ W.cell? ⟨g, o + J * 6 + 3, none⟩ = some (.int .i64 (f2 J).p) ∧ W.cell? ⟨g, o + J * 6 + 4, none⟩ = some (.int .i64 (f2 J).q) ∧ W.cell? ⟨g, o + J * 6 + 5, none⟩ = some (.int .i64 (f2 J).d) ∧ W.cell? ⟨g, o + m * 6, none⟩ = some (.int .i64 (f2 m).k.T) ∧ W.cell? ⟨g, o + m * 6 + 1, none⟩ = some (.int .i64 (f2 m).k.O) ∧ W.cell? ⟨g, o + m * 6 + 2, none⟩ = some (.int .i64 (f2 m).k.S) ∧ W.cell? ⟨g, o + m * 6 + 3, none⟩ = some (.int .i64 (f2 m).p) ∧ W.cell? ⟨g, o + m * 6 + 4, none⟩ = some (.int .i64 (f2 m).q) ∧ W.cell? ⟨g, o + m * 6 + 5, none⟩ = some (.int .i64 (f2 m).d) := fun W h => ⟨h, h.cell c0, h.cell c1, h.cell c2, h.cell c3, h.cell c4, h.cell c5, h.cell d0, h.cell d1, h.cell d2, h.cell d3, h.cell d4, h.cell d5⟩
          have HSS := Lib.hid hss
          have KB := Lib.hid (fun W => byKey_any (f2 J).k (f2 m).k (f2 J).p (f2 J).q (f2 J).d (f2 m).p (f2 m).q (f2 m).d W)
          have hi0 := Nw.refl wr
          clear hss c0 c1 c2 c3 c4 c5 d0 d1 d2 d3 d4 d5
          obtain ⟨C, hC⟩ : ∃ C, C = (f2 J).k.cmp (f2 m).k := ⟨_, rfl⟩
          rw [← hC] at KB
          have hcl := Ky.cmp_neg (f2 J).k (f2 m).k
          rw [← hC] at hcl
          have HCL := Lib.hid hcl
          have HI := Lib.hid hi2
          have HN := Lib.hid hn2
          have HJ := Lib.hid hJ
          clear hJ w0
          clear hcl hC hi2 hn2 hg2 hi hr
          go_wp2_with fail
          go_region_held3 (fun W => Nw wr W ∧ W.cell? ⟨g, o + J * 6, none⟩ = some (.int .i64 (f2 J).k.T) ∧ W.cell? ⟨g, o + J * 6 + 1, none⟩ = some (.int .i64 (f2 J).k.O) ∧ W.cell? ⟨g, o + J * 6 + 2, none⟩ = some (.int .i64 (f2 J).k.S) ∧ W.cell? ⟨g, o + J * 6 + 3, none⟩ = some (.int .i64 (f2 J).p) ∧ W.cell? ⟨g, o + J * 6 + 4, none⟩ = some (.int .i64 (f2 J).q) ∧ W.cell? ⟨g, o + J * 6 + 5, none⟩ = some (.int .i64 (f2 J).d) ∧ W.cell? ⟨g, o + m * 6, none⟩ = some (.int .i64 (f2 m).k.T) ∧ W.cell? ⟨g, o + m * 6 + 1, none⟩ = some (.int .i64 (f2 m).k.O) ∧ W.cell? ⟨g, o + m * 6 + 2, none⟩ = some (.int .i64 (f2 m).k.S) ∧ W.cell? ⟨g, o + m * 6 + 3, none⟩ = some (.int .i64 (f2 m).p) ∧ W.cell? ⟨g, o + m * 6 + 4, none⟩ = some (.int .i64 (f2 m).q) ∧ W.cell? ⟨g, o + m * 6 + 5, none⟩ = some (.int .i64 (f2 m).d)) ((refine HSS.out _ ?_; repeat (first | assumption | exact Nw.refl wr | refine Nw.drew ?_ | refine Nw.alloc ?_ _))) (first
            | (go_at_call 10; refine (KB.out _).mono ?_; rintro e w1 ⟨rfl, b1⟩; have i1 : Nw wr w1 := Nw.step (Nw.drew (Nw.refl wr)) b1))
          case' _ => skip
          rename_i hH
          have hw1 := hH.1
          have HI2 := Lib.hid (HI.out.new hw1)
          clear hH HI HSS KB
          by_cases hC : C < 0
          · have hl := HCL.out.1 hC
            go_upto_region 6 with (fail)
            have hA := HI2.out.1
            obtain ⟨c0, c1, c2, c3, c4, c5⟩ := hA.cells hJn
            have hJm : m ≠ J := by have := HJ.out; omega
            obtain ⟨d0, d1, d2, d3, d4, d5⟩ := hA.cells hmn
            obtain ⟨y0, y1, y2, y3, y4, y5⟩ := hA.open_ hJn
            obtain ⟨z0, z1, z2, z3, z4, z5⟩ := hA.open_ hmn
            have HL := Lib.hid hl
            have hch : EvsAt ((((((w1.setCell ⟨g, o + J * 6, none⟩ (.int .i64 (f2 m).k.T)).setCell ⟨g, o + J * 6 + 1, none⟩ (.int .i64 (f2 m).k.O)).setCell ⟨g, o + J * 6 + 2, none⟩ (.int .i64 (f2 m).k.S)).setCell ⟨g, o + J * 6 + 3, none⟩ (.int .i64 (f2 m).p)).setCell ⟨g, o + J * 6 + 4, none⟩ (.int .i64 (f2 m).q)).setCell ⟨g, o + J * 6 + 5, none⟩ (.int .i64 (f2 m).d)) g o n (upd f2 J (f2 m)) := hA.set hJn (f2 m)
            have hum : upd f2 J (f2 m) m = f2 m := by unfold upd; rw [if_neg (by omega)]
            obtain ⟨x0, x1, x2, x3, x4, x5⟩ := hch.cells hmn
            rw [hum] at x0 x1 x2 x3 x4 x5
            clear hch hum
            clear hl hA hw1
            refine swapRegion g o n c J m (f2 J).k.T (f2 J).k.O (f2 J).k.S (f2 J).p (f2 J).q (f2 J).d (f2 m).k.T (f2 m).k.O (f2 m).k.S (f2 m).p (f2 m).q (f2 m).d w1 gJ gm w1' ⟨c0, c1, c2, c3, c4, c5⟩ ⟨d0, d1, d2, d3, d4, d5⟩ ⟨x0, x1, x2, x3, x4, x5⟩ ⟨y0, y1, y2, y3, y4, y5⟩ ⟨z0, z1, z2, z3, z4, z5⟩ _ ?_
            intro t37 t38 t39 t40 t41 t42 t43 t44 t45 t46 t47 t48 t49 t50 t51 t52
            have hj := HJ.out
            have hj2 : a ≤ m := by omega
            have hj3 : m ≤ k := by omega
            have hsw : Insd w ((((((((((((w1.setCell ⟨g, o + J * 6, none⟩ (.int .i64 (f2 m).k.T)).setCell ⟨g, o + J * 6 + 1, none⟩ (.int .i64 (f2 m).k.O)).setCell ⟨g, o + J * 6 + 2, none⟩ (.int .i64 (f2 m).k.S)).setCell ⟨g, o + J * 6 + 3, none⟩ (.int .i64 (f2 m).p)).setCell ⟨g, o + J * 6 + 4, none⟩ (.int .i64 (f2 m).q)).setCell ⟨g, o + J * 6 + 5, none⟩ (.int .i64 (f2 m).d)).setCell ⟨g, o + m * 6, none⟩ (.int .i64 (f2 J).k.T)).setCell ⟨g, o + m * 6 + 1, none⟩ (.int .i64 (f2 J).k.O)).setCell ⟨g, o + m * 6 + 2, none⟩ (.int .i64 (f2 J).k.S)).setCell ⟨g, o + m * 6 + 3, none⟩ (.int .i64 (f2 J).p)).setCell ⟨g, o + m * 6 + 4, none⟩ (.int .i64 (f2 J).q)).setCell ⟨g, o + m * 6 + 5, none⟩ (.int .i64 (f2 J).d)).drew g o n a b f (swp f2 m J) := Insd.swp HI2.out hmn hJn hj hj2 (by omega) HL.out
            clear hj
            generalize World.drew _ = w9 at hsw ⊢
            clear c0 c1 c2 c3 c4 c5 d0 d1 d2 d3 d4 d5 x0 x1 x2 x3 x4 x5 y0 y1 y2 y3 y4 y5 z0 z1 z2 z3 z4 z5
            have HSW := Lib.hid hsw
            clear hsw HI2
            go_wp2_with fail
            go_roundw
            case rel =>
              refine ⟨m, swp f2 m J, hj2, hj3, ?_, HSW.out, ?_⟩
              · rfl
              · have hj := HJ.out
                subst hj
                exact Near.step HN.out hj2 hm2 HL.out
            case measure => simp [intOf]; have := HJ.out; omega
          · have hl : (f2 J).k.less (f2 m).k = false := by rw [← Bool.not_eq_true]; exact fun h => hC (HCL.out.2 h)
            have HL := Lib.hid hl
            clear hl hw1
            go_wp2_with fail
            go_roundw
            case rel => exact ⟨k + 1, f2, by omega, by omega, by go_num, HI2.out, Near.stop HN.out (.inr ⟨by omega, by have := HJ.out; subst this; exact HL.out⟩)⟩
            case measure => simp [intOf]; omega
        · have hma : m = a := by omega
          subst hma
          have ga : decide ((m : Int) < (m : Int)) = false := by simp
          have ga' : decide (m < m) = false := by simp
          go_wp2_with fail
          go_quiet (fail)
          go_wp2_with fail
          go_roundw
          case rel => exact ⟨k + 1, f2, by omega, by omega, by go_num, hi2.many _, Near.stop hn2 (.inl (by omega))⟩
          case measure => simp [intOf]; omega
    · go_wp2
      go_end0
      exact ⟨rfl, f1, hi, fun p q h1 h2 h3 => hr p q h1 h2 (by omega)⟩
end Go.Proofs.Ytefgpnalahijgaa
