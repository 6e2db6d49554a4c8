/- RoundsBound's walk. Not finished. -/
import Derived.Test.YtbgpbbepeemieaaBndCnt
import Derived.Test.YtbgpbbepeemieaaOpen
namespace Go.Proofs.Ytbgpbbepeemieaa
open Go.RowKit
set_option linter.unusedVariables false
set_option linter.unusedSimpArgs false
/-- Keys in an array. -/
def KysAt (w : World) (A : Option Addr) (n : Nat) (f : Nat → Ky) : Prop :=
  n = 0 ∨ ∃ b o, A = some ⟨b, o, none⟩ ∧ ∀ i, i < n → w.cell? ⟨b, o + i * 3, none⟩ = some (.int .i64 (f i).T) ∧ w.cell? ⟨b, o + i * 3 + 1, none⟩ = some (.int .i64 (f i).O) ∧ w.cell? ⟨b, o + i * 3 + 2, none⟩ = some (.int .i64 (f i).S)
theorem KysAt.keep {w w' : World} {A : Option Addr} {n : Nat} {f : Nat → Ky} (h : KysAt w A n f) (hB : Below w.heap.size w w') : KysAt w' A n f := by
  rcases h with rfl | ⟨b, o, rfl, h⟩
  · exact .inl rfl
  · have hN : Nw w w' := hB
    exact .inr ⟨b, o, rfl, fun i hi => ⟨hN.cell (h i hi).1, hN.cell (h i hi).2.1, hN.cell (h i hi).2.2⟩⟩
theorem six6 {zs : List Int} (h : zs.length = 6) : ∃ a b c d e f, zs = [a, b, c, d, e, f] := by
  match zs, h with
  | [a, b, c, d, e, f], _ => exact ⟨a, b, c, d, e, f, rfl⟩
set_option maxRecDepth 100000 in
set_option maxHeartbeats 1600000 in
theorem bound_out (a0 a1 a2 : Option Addr) (m n q c0 c1 c2 : Nat) (w : World) (h : n < 1 ∨ 16 < n ∨ 40 < m ∨ 20 < q) (hm : m ≤ maxLen) (hn : n ≤ maxLen) (hq : q ≤ maxLen) :
    Calls Try.prog 3 #[.slice a0 m c0, .slice a1 n c1, .slice a2 q c2] w fun e w' => e = .returned (.bool true) ∧ Below w.heap.size w w' := by
  unfold maxLen at *
  have k := Lib.hid (fun W => known_any W)
  have h4 : n < 1 ∨ 1 ≤ n ∧ 16 < n ∨ 1 ≤ n ∧ n ≤ 16 ∧ 40 < m ∨ 1 ≤ n ∧ n ≤ 16 ∧ m ≤ 40 ∧ 20 < q := by omega
  rcases h4 with h1 | ⟨h1, h2⟩ | ⟨h1, h2, h3⟩ | ⟨h1, h2, h3, h4⟩
  · have g1 : (n : Int) < 1 := by omega
    clear h hm hq
    go_enter Try.func3, Try.ntmps3
    go_wp2_with fail
    refine (k.out _).mono ?_
    rintro e w1 ⟨rfl, b1⟩
    go_wp2_with fail
    go_ret
    exact ⟨rfl, b1⟩
  · have g1 : ¬ (n : Int) < 1 := by omega
    have g2 : (16 : Int) < (n : Int) := by omega
    clear h hm hq
    go_enter Try.func3, Try.ntmps3
    go_wp2_with fail
    refine (k.out _).mono ?_
    rintro e w1 ⟨rfl, b1⟩
    go_wp2_with fail
    go_ret
    exact ⟨rfl, b1⟩
  · have g1 : ¬ (n : Int) < 1 := by omega
    have g2 : ¬ (16 : Int) < (n : Int) := by omega
    have g3 : (40 : Int) < (m : Int) := by omega
    clear h hn hq
    go_enter Try.func3, Try.ntmps3
    go_wp2_with fail
    refine (k.out _).mono ?_
    rintro e w1 ⟨rfl, b1⟩
    go_wp2_with fail
    go_ret
    exact ⟨rfl, b1⟩
  · have g1 : ¬ (n : Int) < 1 := by omega
    have g2 : ¬ (16 : Int) < (n : Int) := by omega
    have g3 : ¬ (40 : Int) < (m : Int) := by omega
    have g4 : (20 : Int) < (q : Int) := by omega
    clear h hn hm
    go_enter Try.func3, Try.ntmps3
    go_wp2_with fail
    refine (k.out _).mono ?_
    rintro e w1 ⟨rfl, b1⟩
    go_wp2_with fail
    go_ret
    exact ⟨rfl, b1⟩
theorem infoBool : (Try.prog.info? 4).map (fun i => (i.zero, i.size, i.bytes)) = some (some (.bool false), 1, 1) := by kernel_rfl
theorem make_bools (n : Nat) (h : n ≤ 16) : ∃ A : Array Value, (∀ i, i ≤ n → A[i]? = some (.bool false)) ∧
    ∀ W : World, (Instr.makeSlice 36 (.int .i64 ((n : Int) + 1)) (.int .i64 ((n : Int) + 1))).run Try.prog W = .ok (.slice (some ⟨W.heap.size, 0, none⟩) (n + 1) (n + 1)) (W.alloc (.cells A 4)) := by
  obtain ⟨i0, hi0, hz0, hz1, hz2⟩ := info_parts infoBool
  refine ⟨madeCells #[.bool false] (n + 1), fun i hi => ?_, fun W => ?_⟩
  · rw [made_get _ _ _ 0 (by show i % 1 = 0; omega) (by omega)]; rfl
  · have := run_make (P := Try.prog) W 36 4 i0 _ Try.underlying36 hi0 hz0 .i64 .i64 ((n : Int) + 1) ((n : Int) + 1) (by omega) (by omega) (by rw [hz2]; omega) (by omega)
    rw [this, hz1, show ((n : Int) + 1).toNat = n + 1 by omega, Nat.mul_one]
    rfl
set_option maxRecDepth 100000 in
set_option maxHeartbeats 4000000 in
theorem bound_in (a0 a1 a2 : Option Addr) (ns : List Int) (n : Nat) (f : Nat → Ky) (zs : List (List Int)) (c0 c1 c2 : Nat) (w : World) (hn1 : 1 ≤ n) (hn : n ≤ 16) (hm : ns.length ≤ 40) (hq : zs.length ≤ 20)
    (h0 : Rd w a0 (ns.map (Value.int .i64))) (h1 : KysAt w a1 n f) (h2 : Rows w a2 6 zs) (hr0 : ∀ z ∈ ns, (Lit.int .i64 z).wf = true) (hr2 : ∀ r ∈ zs, ∀ z ∈ r, (Lit.int .i64 z).wf = true) :
    Calls Try.prog 3 #[.slice a0 ns.length c0, .slice a1 n c1, .slice a2 zs.length c2] w fun e w' => e = .returned (.bool true) ∧ Below w.heap.size w w' := by
  have k := Lib.hid (fun W => known_any W)
  have g1 : ¬ (n : Int) < 1 := by omega
  have g2 : ¬ (16 : Int) < (n : Int) := by omega
  have g3 : ¬ (40 : Int) < (ns.length : Int) := by omega
  have g4 : ¬ (20 : Int) < (zs.length : Int) := by omega
  have H0 := Lib.hid h0
  have H1 := Lib.hid h1
  have H2 := Lib.hid h2
  have HR0 := Lib.hid hr0
  have HR2 := Lib.hid hr2
  clear h0 h1 h2 hr0 hr2
  generalize hml : ns.length = m at *
  have HML := Lib.hid hml
  clear hml
  obtain ⟨TA, hTA, ktb⟩ := make_bools n hn
  have HTA := Lib.hid hTA
  clear hTA
  have w1' : IntKind.i64.wrap ((n : Int) + 1) = (n : Int) + 1 := IntWalk.i64_in (n := (n : Int) + 1) (by constructor <;> omega)
  go_enter Try.func3, Try.ntmps3
  go_wp2_with fail
  go_loopw [8] (fun i wr => ∃ j : Nat, j ≤ n ∧ i = .int .i64 j ∧ Below w.heap.size w wr) (fun i _ => n - (intOf i).toNat)
  case atStart => exact ⟨0, by omega, rfl, Below.refl _ _⟩
  case round =>
    obtain ⟨j, hj, rfl, hb⟩ := hrel
    by_cases hlt : j < n
    · rcases H1.out.keep hb with h0 | ⟨b, o, rfl, hc⟩
      · omega
      · obtain ⟨d0, _, _⟩ := hc j hlt
        have gj : (j : Int) < (n : Int) := by omega
        have HB := Lib.hid hb
        by_cases ht : 1099511627776 < (f j).T
        · clear hc hb
          go_wp2_with fail
          refine (k.out _).mono ?_
          rintro e w1 ⟨rfl, b1⟩
          go_wp2_with fail
          go_ret
          exact ⟨rfl, HB.out.trans (b1.mono HB.out.size)⟩
        · clear hc hb
          go_wp2_with fail
          go_roundw
          case rel => exact ⟨j + 1, by omega, by go_num, HB.out⟩
          case measure => simp [intOf]; omega
    · obtain rfl : n = j := by omega
      have HB := Lib.hid hb
      clear hb
      go_wp2_with fail
      refine (new_any n _ hn1 hn).mono ?_
      rintro e w1 ⟨R, C, S, L, rfl, h1, b1, hf⟩
      have HF := Lib.hid (fun q hq => Nat.le_trans HB.out.size (hf q hq))
      have HFR := Lib.hid h1.lt
      have H1' := Lib.hid h1
      have HB1 := Lib.hid (HB.out.trans (b1.mono HB.out.size))
      clear hf h1 b1
      go_wp2_with fail
      refine (begin_any R C S L (Rn.new n) w1 H1'.out rfl (by show 0 < 1000000; decide)).mono ?_
      rintro e w2 ⟨rfl, h2, c2⟩
      have HC2 := Lib.hid (HB1.out.trans (c2.below (fun q _ hq => HF.out q hq) HB1.out.size))
      have H2' := Lib.hid h2
      clear c2 h2
      go_wp2_with fail
      refine (top_any _).mono ?_
      rintro e w3 ⟨rfl, b3⟩
      have H3 := Lib.hid (H2'.out.new b3)
      have HC3 := Lib.hid (HC2.out.trans (b3.mono HC2.out.size))
      clear b3
      go_upto_region 13 with (fail)
      have hlw : LowAt (w3.alloc (.cells #[.int .i64 kmax.T, .int .i64 kmax.O, .int .i64 kmax.S] 27)) w3.heap.size kmax := Blk.last w3 _ _ rfl
      have HL4 := Lib.hid hlw
      have H4 := Lib.hid (H3.out.new ((Nw.refl w3).alloc (.cells #[.int .i64 kmax.T, .int .i64 kmax.O, .int .i64 kmax.S] 27)))
      have HB4 := Lib.hid (HC3.out.trans (((Nw.refl w3).alloc (.cells #[.int .i64 kmax.T, .int .i64 kmax.O, .int .i64 kmax.S] 27) : Below _ _ _).mono HC3.out.size))
      have HLB := Lib.hid H3.out.lt
      have HS4 := Lib.hid (show w3.heap.size < (w3.alloc (.cells #[.int .i64 kmax.T, .int .i64 kmax.O, .int .i64 kmax.S] 27)).heap.size by simp)
      clear hlw
      generalize w3.alloc (.cells #[.int .i64 kmax.T, .int .i64 kmax.O, .int .i64 kmax.S] 27) = w4 at *
      generalize w3.heap.size = LB at *
      have hst : St w (w4.alloc (.cells TA 4)) R C S L LB w4.heap.size n (Rn.new n).begun kmax (fun _ => false) := by
        refine ⟨H4.out.new ((Nw.refl w4).alloc _), Blk.alloc HL4.out _, ⟨TA, Blk.last w4 _ _ rfl, HTA.out⟩, HB4.out.trans (((Nw.refl w4).alloc _ : Below _ _ _).mono HB4.out.size), HF.out, fun q hq => ?_, HS4.out, rfl⟩
        obtain ⟨l1, l2, l3, l4⟩ := HLB.out
        rcases hq with rfl | rfl | rfl | rfl <;> assumption
      have HST := Lib.hid hst
      clear hst
      go_upto_region 15 with (fail)
      generalize w4.alloc (.cells TA 4) = w5 at *
      generalize w4.heap.size = TB at *
      clear H4 HB4 HLB HS4 HL4 H3 HC3 H2' HC2 H1' HB1 HF HFR ktb HTA
      go_wp2_with fail
      go_loopw [14] (fun i wr => ∃ (j : Nat) (r : Rn) (low : Ky) (told : Nat → Bool), j ≤ m + 2 * n ∧ i = .int .i64 j ∧ St w wr R C S L LB TB n r low told ∧ Inv r low told) (fun i _ => m + 2 * n - (intOf i).toNat)
      case atStart => exact ⟨0, _, _, _, by omega, rfl, HST.out, Inv.start n⟩
      case round =>
        obtain ⟨i, r, low, told, hi, rfl, hs, hv⟩ := hrel
        have w2 : IntKind.i64.wrap (2 * (n : Int)) = 2 * (n : Int) := IntWalk.i64_in (n := 2 * (n : Int)) (by constructor <;> omega)
        have w3' : IntKind.i64.wrap ((m : Int) + 2 * (n : Int)) = (m : Int) + 2 * (n : Int) := IntWalk.i64_in (n := (m : Int) + 2 * (n : Int)) (by constructor <;> omega)
        have HS0 := Lib.hid hs
        have HV0 := Lib.hid hv
        clear hs hv
        have hn16 := HS0.out.rm.n16
        have kh := Lib.hid (half_any R C S L r wr HS0.out.rm)
        by_cases hlt : i < m + 2 * n
        · have gi : (i : Int) < (m : Int) + 2 * (n : Int) := by omega
          by_cases hh : r.half = 0
          · rw [hh] at kh
            go_wp2_with fail
            refine kh.out.mono ?_
            rintro e wh ⟨rfl, hw⟩
            obtain rfl := hw.symm
            go_wp2_with fail
            have hs := HS0.out
            have hv := HV0.out
            have his := (hv.done hh).1
            have hle := (hv.done hh).2
            have HLE := Lib.hid hle
            have HS := Lib.hid hs
            clear hs hv hle
            refine (bound_yes R C S L r _ HS.out.rm his).mono ?_
            rintro e w7 ⟨rfl, b7⟩
            have HS7 := Lib.hid (HS.out.fresh b7)
            clear b7 HS
            go_upto_region 43 with (fail)
            have hk := Blk.last w7 27 #[.int .i64 r.bnd.T, .int .i64 r.bnd.O, .int .i64 r.bnd.S] rfl
            have HS8 := Lib.hid (HS7.out.fresh ((Nw.refl w7).alloc (.cells #[.int .i64 r.bnd.T, .int .i64 r.bnd.O, .int .i64 r.bnd.S] 27)))
            generalize w7.alloc (.cells #[.int .i64 r.bnd.T, .int .i64 r.bnd.O, .int .i64 r.bnd.S] 27) = w8 at hk HS8 ⊢
            generalize w7.heap.size = gk at hk ⊢
            have k0 : w8.cell? ⟨gk, 0, none⟩ = some (.int .i64 r.bnd.T) := hk.cell 0
            have k1 : w8.cell? ⟨gk, 1, none⟩ = some (.int .i64 r.bnd.O) := hk.cell 1
            have k2 : w8.cell? ⟨gk, 2, none⟩ = some (.int .i64 r.bnd.S) := hk.cell 2
            have l0 : w8.cell? ⟨LB, 0, none⟩ = some (.int .i64 low.T) := HS8.out.lw.cell 0
            have l1 : w8.cell? ⟨LB, 1, none⟩ = some (.int .i64 low.O) := HS8.out.lw.cell 1
            have l2 : w8.cell? ⟨LB, 2, none⟩ = some (.int .i64 low.S) := HS8.out.lw.cell 2
            clear hk HS7
            go_wp2_with fail
            refine (refCompare_any r.bnd low _).mono ?_
            rintro e w9 ⟨rfl, b9⟩
            have HS9 := Lib.hid (HS8.out.fresh b9)
            have gc : r.bnd.cmp low ≤ 0 := by have := HLE.out; unfold Ky.le at this; unfold Ky.cmp; rw [this]; split <;> simp
            clear b9 HS8 k0 k1 k2 l0 l1 l2
            generalize r.bnd.cmp low = cc at *
            go_wp2_with fail
            refine (k.out _).mono ?_
            rintro e w10 ⟨rfl, b10⟩
            go_wp2_with fail
            go_ret
            exact ⟨rfl, (HS9.out.fresh b10).bel⟩
          · have gh : ¬ (r.half : Int) = 0 := by omega
            have gh2 : ((r.half : Int) != 0) = true := bne_iff_ne.2 (by omega)
            go_wp2_with fail
            refine kh.out.mono ?_
            rintro e wh ⟨rfl, hw⟩
            obtain rfl := hw.symm
            go_wp2_with fail
            go_loopw [15] (fun kk wx => ∃ (j : Nat) (r' : Rn) (low' : Ky), j ≤ zs.length ∧ kk = .int .i64 j ∧ St w wx R C S L LB TB n r' low' told ∧ Inv r' low' told ∧ r'.half ≠ 0) (fun kk _ => zs.length - (intOf kk).toNat)
            case atStart => exact ⟨0, r, low, by omega, rfl, HS0.out, HV0.out, hh⟩
            case round =>
              obtain ⟨j, r, low, hj, rfl, hs, hv, hh⟩ := hrel
              have HS := Lib.hid hs
              have HV := Lib.hid hv
              have hn16 := hs.rm.n16
              have hnn := hs.nn
              clear hs hv HS0 HV0 kh
              by_cases hjl : j < zs.length
              · obtain ⟨b, ob, rfl, h6, hcell⟩ := H2.out.get hjl
                obtain ⟨kd, P, x, y, z, o, hrow⟩ := six6 h6
                have gj : (j : Int) < (zs.length : Int) := by omega
                have a0' : w.cell? ⟨b, ob + j * 6, none⟩ = some (.int .i64 kd) := by have := hcell 0 (by omega); simp only [hrow] at this; exact this
                have a1' : w.cell? ⟨b, ob + j * 6 + 1, none⟩ = some (.int .i64 P) := by have := hcell 1 (by omega); simp only [hrow] at this; exact this
                have a2' : w.cell? ⟨b, ob + j * 6 + 2, none⟩ = some (.int .i64 x) := by have := hcell 2 (by omega); simp only [hrow] at this; exact this
                have a3' : w.cell? ⟨b, ob + j * 6 + 3, none⟩ = some (.int .i64 y) := by have := hcell 3 (by omega); simp only [hrow] at this; exact this
                have a4' : w.cell? ⟨b, ob + j * 6 + 4, none⟩ = some (.int .i64 z) := by have := hcell 4 (by omega); simp only [hrow] at this; exact this
                have a5' : w.cell? ⟨b, ob + j * 6 + 5, none⟩ = some (.int .i64 o) := by have := hcell 5 (by omega); simp only [hrow] at this; exact this
                have NB : Nw w wr := HS.out.bel
                have e0 := NB.cell a0'
                have e1 := NB.cell a1'
                have e2 := NB.cell a2'
                have e3 := NB.cell a3'
                have e4 := NB.cell a4'
                have e5 := NB.cell a5'
                clear hcell hrow h6 a0' a1' a2' a3' a4' a5' NB
                go_upto_region 22 with (fail)
                have hb := Blk.last wr 39 #[.int .i64 kd, .int .i64 P, .int .i64 x, .int .i64 y, .int .i64 z, .int .i64 o] rfl
                have hs2 := HS.out.fresh ((Nw.refl wr).alloc (.cells #[.int .i64 kd, .int .i64 P, .int .i64 x, .int .i64 y, .int .i64 z, .int .i64 o] 39))
                have hs_lt : LB < wr.heap.size := HS.out.lw.lt
                clear e0 e1 e2 e3 e4 e5 HS
                have hga : LB < wr.heap.size := hs_lt
                generalize wr.alloc (.cells #[.int .i64 kd, .int .i64 P, .int .i64 x, .int .i64 y, .int .i64 z, .int .i64 o] 39) = w6 at hb hs2 ⊢
                generalize wr.heap.size = ga at hb hga ⊢
                have HS := Lib.hid hs2
                have HBK := Lib.hid hb
                have f0 : w6.cell? ⟨ga, 0, none⟩ = some (.int .i64 kd) := hb.cell 0
                have f1 : w6.cell? ⟨ga, 1, none⟩ = some (.int .i64 P) := hb.cell 1
                have f2 : w6.cell? ⟨ga, 2, none⟩ = some (.int .i64 x) := hb.cell 2
                have f3 : w6.cell? ⟨ga, 3, none⟩ = some (.int .i64 y) := hb.cell 3
                have f4 : w6.cell? ⟨ga, 4, none⟩ = some (.int .i64 z) := hb.cell 4
                have f5 : w6.cell? ⟨ga, 5, none⟩ = some (.int .i64 o) := hb.cell 5
                clear hs2 hb
                have km := Lib.hid (fun W => may_any kd P x y z o W)
                by_cases ho : o = (i : Int)
                · subst ho
                  have hi0 : decide ((0 : Int) ≤ (i : Int)) = true := by simp
                  rw [hi0] at km
                  by_cases hx : x ≤ 1099511627776
                  · rw [show decide (x ≤ 1099511627776) = true by simp [hx]] at km
                    go_wp2_with fail
                    refine (km.out _).mono ?_
                    rintro e w7 ⟨rfl, b7⟩
                    have HS7 := Lib.hid (HS.out.fresh b7)
                    have hb7 := HBK.out.below b7 HBK.out.lt
                    have HBK7 := Lib.hid hb7
                    have f1' : w7.cell? ⟨ga, 1, none⟩ = some (.int .i64 P) := hb7.cell 1
                    clear f0 f1 f2 f3 f4 f5 b7 HS HBK hb7 hi0 hx km
                    go_upto_region 23 with (fail)
                    go_cut [17] (fun s17 wx => s17 = .bool (redL r told P) ∧ St w wx R C S L LB TB n r low told ∧ Blk wx ga 39 #[.int .i64 kd, .int .i64 P, .int .i64 x, .int .i64 y, .int .i64 z, .int .i64 (i : Int)])
                    case first =>
                      have kc := Lib.hid (colour_any R C S L r P w7 HS7.out.rm)
                      have kn := Lib.hid (number_any R C S L r w7 HS7.out.rm)
                      by_cases p0 : 0 ≤ P
                      · obtain ⟨u, rfl⟩ := Int.eq_ofNat_of_zero_le p0
                        by_cases p1 : u ≤ n
                        · have gu : (u : Int) ≤ (n : Int) := by omega
                          have gu2 : decide ((u : Int) ≤ (n : Int)) = true := by simp; omega
                          have gu3 : (u : Int) < (n : Int) + 1 := by omega
                          by_cases pc : r.colour (u : Int) = r.num
                          · rw [pc] at kc
                            by_cases pz : u = 0
                            · subst pz
                              have hR : redL r told ((0 : Nat) : Int) = true := by unfold redL; rw [pc]; simp
                              have HRR := Lib.hid hR
                              clear hR pc p0 p1 gu gu2 gu3
                              go_wp2_with fail
                              refine kc.out.mono ?_
                              rintro e wh ⟨rfl, hw⟩
                              obtain rfl := hw.symm
                              go_wp2_with fail
                              refine kn.out.mono ?_
                              rintro e wh ⟨rfl, hw⟩
                              obtain rfl := hw.symm
                              go_wp2_with fail
                              go_meet
                              exact ⟨by rw [HRR.out], HS7.out, HBK7.out⟩
                            · have ht := HS7.out.toldCell p1
                              have gz : ¬ (u : Int) = 0 := by omega
                              have gz2 : decide ((u : Int) = 0) = false := by simp; omega
                              have hR : redL r told (u : Int) = !told u := by unfold redL; simp [pc, pz, hnn, p1]
                              clear pc p0
                              cases hT : told u with
                              | true =>
                                have HRR : Hid (redL r told (u : Int) = false) := Lib.hid (by rw [hR, hT]; rfl)
                                rw [hT] at ht
                                clear hT hR
                                go_wp2_with fail
                                refine kc.out.mono ?_
                                rintro e wh ⟨rfl, hw⟩
                                obtain rfl := hw.symm
                                go_wp2_with fail
                                refine kn.out.mono ?_
                                rintro e wh ⟨rfl, hw⟩
                                obtain rfl := hw.symm
                                go_wp2_with fail
                                go_meet
                                exact ⟨by rw [HRR.out, show ((u : Int) == 0) = false from beq_eq_false_iff_ne.2 gz], HS7.out, HBK7.out⟩
                              | false =>
                                have HRR : Hid (redL r told (u : Int) = true) := Lib.hid (by rw [hR, hT]; rfl)
                                rw [hT] at ht
                                clear hT hR
                                go_wp2_with fail
                                refine kc.out.mono ?_
                                rintro e wh ⟨rfl, hw⟩
                                obtain rfl := hw.symm
                                go_wp2_with fail
                                refine kn.out.mono ?_
                                rintro e wh ⟨rfl, hw⟩
                                obtain rfl := hw.symm
                                go_wp2_with fail
                                go_meet
                                exact ⟨by rw [HRR.out], HS7.out, HBK7.out⟩
                          · have hR : redL r told (u : Int) = false := by unfold redL; simp [pc]
                            have HRR := Lib.hid hR
                            have gc : ((r.colour (u : Int) : Int) == (r.num : Int)) = false := beq_eq_false_iff_ne.2 (by omega)
                            have gc2 : decide ((r.colour (u : Int) : Int) = (r.num : Int)) = false := by simp; omega
                            have gc3 : ¬ (r.colour (u : Int) : Int) = (r.num : Int) := by omega
                            clear hR p0
                            generalize r.colour (u : Int) = cu at *
                            go_wp2_with fail
                            refine kc.out.mono ?_
                            rintro e wh ⟨rfl, hw⟩
                            obtain rfl := hw.symm
                            go_wp2_with fail
                            refine kn.out.mono ?_
                            rintro e wh ⟨rfl, hw⟩
                            obtain rfl := hw.symm
                            go_wp2_with fail
                            go_meet
                            exact ⟨by rw [HRR.out], HS7.out, HBK7.out⟩
                        · have hR : redL r told (u : Int) = false := by unfold redL; simp [hnn]; omega
                          have HRR := Lib.hid hR
                          have gu2 : decide ((u : Int) ≤ (n : Int)) = false := by simp; omega
                          have gu : ¬ (u : Int) ≤ (n : Int) := by omega
                          clear hR p0
                          go_wp2_with fail
                          go_meet
                          exact ⟨by rw [HRR.out], HS7.out, HBK7.out⟩
                      · have hR : redL r told P = false := by unfold redL; simp [p0]
                        have HRR := Lib.hid hR
                        have gp : decide (0 ≤ P) = false := by simp; omega
                        clear hR
                        go_wp2_with fail
                        go_meet
                        exact ⟨by rw [HRR.out], HS7.out, HBK7.out⟩
                    case rest =>
                      obtain ⟨rfl, hs8, hb8⟩ := hcut
                      have q1 : wc.cell? ⟨ga, 1, none⟩ = some (.int .i64 P) := hb8.cell 1
                      have q2 : wc.cell? ⟨ga, 2, none⟩ = some (.int .i64 x) := hb8.cell 2
                      have q3 : wc.cell? ⟨ga, 3, none⟩ = some (.int .i64 y) := hb8.cell 3
                      have q4 : wc.cell? ⟨ga, 4, none⟩ = some (.int .i64 z) := hb8.cell 4
                      have hv9 := HV.out.sent hh P ⟨x, y, z⟩
                      have hsh := r.sent_half P ⟨x, y, z⟩
                      have hh9 : (r.sent P ⟨x, y, z⟩).half ≠ 0 := by rw [hsh.1]; exact hh
                      have HSH := Lib.hid hsh.2.1
                      have HS8 := Lib.hid hs8
                      have HB8 := Lib.hid hb8
                      clear hs8 hb8 hsh HS7 HBK7 f1' hh
                      generalize redL r told P = B at hv9 ⊢
                      have HV9 := Lib.hid hv9
                      clear hv9
                      go_wp2_with fail
                      refine (sent_any R C S L r P ⟨x, y, z⟩ wc HS8.out.rm).mono ?_
                      rintro e w9 ⟨rfl, h9, c9⟩
                      have HS9 := Lib.hid (HS8.out.turn h9 c9 HSH.out)
                      have hb9 := HB8.out.chg c9 (fun g => by have := HS8.out.ord ga g; omega)
                      have q2' : w9.cell? ⟨ga, 2, none⟩ = some (.int .i64 x) := hb9.cell 2
                      have q3' : w9.cell? ⟨ga, 3, none⟩ = some (.int .i64 y) := hb9.cell 3
                      have q4' : w9.cell? ⟨ga, 4, none⟩ = some (.int .i64 z) := hb9.cell 4
                      clear q1 q2 q3 q4 h9 c9 hb9 HS8 HB8
                      cases B with
                      | true =>
                        go_wp2_with fail
                        refine (lower_any LB low ⟨x, y, z⟩ w9 HS9.out.lw).mono ?_
                        rintro e w10 ⟨rfl, hl10, c10⟩
                        have HS10 := Lib.hid (HS9.out.lower hl10 c10)
                        clear hl10 c10 q2' q3' q4' HS9
                        go_wp2_with fail
                        go_roundw
                        case rel => exact ⟨j + 1, _, _, by omega, by go_num, HS10.out, HV9.out, hh9⟩
                        case measure => simp [intOf]; omega
                      | false =>
                        clear q2' q3' q4'
                        go_wp2_with fail
                        go_roundw
                        case rel => exact ⟨j + 1, _, _, by omega, by go_num, HS9.out, HV9.out, hh9⟩
                        case measure => simp [intOf]; omega
                  · rw [show decide (x ≤ 1099511627776) = false by simp; omega] at km
                    go_wp2_with fail
                    refine (km.out _).mono ?_
                    rintro e w7 ⟨rfl, b7⟩
                    have HS7 := Lib.hid (HS.out.fresh b7)
                    clear f0 f1 f2 f3 f4 f5 b7 HS HBK hi0 hx km
                    go_wp2_with fail
                    go_roundw
                    case rel => exact ⟨j + 1, r, low, by omega, by go_num, HS7.out, HV.out, hh⟩
                    case measure => simp [intOf]; omega
                · clear km HBK
                  go_wp2_with fail
                  go_roundw
                  case rel => exact ⟨j + 1, r, low, by omega, by go_num, HS.out, HV.out, hh⟩
                  case measure => simp [intOf]; omega
              · obtain rfl : j = zs.length := by omega
                go_upto_if 158 with (fail)
                go_cut [18] (fun s18 wx => ∃ P : Int, s18 = .int .i64 P ∧ St w wx R C S L LB TB n r low told)
                case first =>
                  by_cases hio : i < m
                  · have gio : (i : Int) < (m : Int) := by omega
                    obtain ⟨z, hz⟩ : ∃ z, ns[i]? = some z := ⟨_, List.getElem?_eq_getElem (by have := HML.out; omega)⟩
                    obtain ⟨b, off, rfl, _, hc⟩ := H0.out.get (k := i) (by have := HML.out; simp; omega)
                    have hci : w.cell? ⟨b, off + i, none⟩ = some (.int .i64 z) := hc i _ (by simp [hz])
                    have NB : Nw w wr := HS.out.bel
                    have hcw := NB.cell hci
                    clear hc hci NB hz
                    go_wp2_with fail
                    go_meet
                    exact ⟨_, rfl, HS.out⟩
                  · have gio : ¬ (i : Int) < (m : Int) := by omega
                    go_wp2_with fail
                    go_meet
                    exact ⟨_, rfl, HS.out⟩
                case rest =>
                  obtain ⟨P, rfl, hs8⟩ := hcut
                  have HS8 := Lib.hid hs8
                  clear hs8 HS
                  have kh8 := Lib.hid (half_any R C S L r wc HS8.out.rm)
                  have kn8 := Lib.hid (number_any R C S L r wc HS8.out.rm)
                  have hnum := HV.out.num
                  go_wp2_with fail
                  refine kh8.out.mono ?_
                  rintro e wh ⟨rfl, hw⟩
                  obtain rfl := hw.symm
                  clear kh8 HML
                  go_wp2_with fail
                  go_loop [20, 21] (fun s q => ∃ u : Nat, u ≤ n ∧ q = .int .i64 ((u : Int) + 1) ∧ s = .int .i64 (r.cnt u)) (fun _ q => n + 1 - (intOf q).toNat)
                  case atStart => exact ⟨0, by omega, rfl, rfl⟩
                  case round =>
                    obtain ⟨u, hu, rfl, rfl⟩ := hrel
                    have kc8 := Lib.hid (colour_any R C S L r ((u : Int) + 1) wc HS8.out.rm)
                    have hcl := r.cnt_le u
                    by_cases hlu : u < n
                    · have gq : (u : Int) + 1 ≤ (n : Int) := by omega
                      by_cases pc : r.colour ((u : Int) + 1) = r.num
                      · have HC : Hid (r.cnt (u + 1) = r.cnt u + 1) := Lib.hid (by simp only [Rn.cnt]; rw [if_pos pc])
                        rw [pc] at kc8
                        clear pc hnum
                        go_wp2_with fail
                        refine kc8.out.mono ?_
                        rintro e wi ⟨rfl, hw⟩
                        obtain rfl := hw.symm
                        go_wp2_with fail
                        refine kn8.out.mono ?_
                        rintro e wj ⟨rfl, hw⟩
                        obtain rfl := hw.symm
                        go_wp2_with fail
                        go_round
                        case rel => exact ⟨u + 1, by omega, by go_num, by rw [HC.out]; go_num⟩
                        case measure => simp [intOf]; omega
                      · have HC : Hid (r.cnt (u + 1) = r.cnt u) := Lib.hid (by simp only [Rn.cnt]; rw [if_neg pc]; rfl)
                        have gc : ((r.colour ((u : Int) + 1) : Int) == (r.num : Int)) = false := beq_eq_false_iff_ne.2 (by omega)
                        clear hnum pc
                        generalize r.colour ((u : Int) + 1) = cu at *
                        go_wp2_with fail
                        refine kc8.out.mono ?_
                        rintro e wi ⟨rfl, hw⟩
                        obtain rfl := hw.symm
                        go_wp2_with fail
                        refine kn8.out.mono ?_
                        rintro e wj ⟨rfl, hw⟩
                        obtain rfl := hw.symm
                        go_wp2_with fail
                        go_round
                        case rel => exact ⟨u + 1, by omega, by go_num, by rw [HC.out]⟩
                        case measure => simp [intOf]; omega
                    · obtain rfl : u = n := by omega
                      clear kc8
                      by_cases p1 : 1 ≤ P
                      · by_cases p2 : P ≤ (u : Int)
                        · obtain ⟨p, rfl⟩ : ∃ p : Nat, P = (p : Int) + 1 := ⟨(P - 1).toNat, by omega⟩
                          have hpu : p < u := by omega
                          have gpu : (p : Int) < (u : Int) := by omega
                          rcases H1.out.keep HS8.out.bel with h0 | ⟨b1, o1, rfl, hcw⟩
                          · omega
                          · have HCW := Lib.hid hcw
                            obtain ⟨d0, d1, d2⟩ := hcw p hpu
                            have ks0 := see_any R C S L r (p + 1) (f p) wc HS8.out.rm (by omega) (by rw [HS8.out.nn]; omega) (fun h2 => (HV.out.two h2).1)
                            rw [show ((p + 1 : Nat) : Int) = (p : Int) + 1 by simp] at ks0
                            have hv9 := HV.out.see hh (p := p + 1) (by omega) (by rw [HS8.out.nn]; omega) (f p) (r.cnt u) (by rw [hnn]; have := r.cnt_full hnum u (by omega); rw [this])
                            have hsn := r.see_n (p + 1) (f p)
                            have HSN := Lib.hid hsn
                            clear hcw kn8 hsn hcl hnum
                            by_cases hr : r.refuses (p + 1)
                            · have hT : tellsL r (p + 1) (r.cnt u) = false := by unfold tellsL; simp [hr]
                              rw [hT] at hv9
                              rw [if_pos hr] at ks0
                              have HV9 := Lib.hid hv9
                              have KS := Lib.hid ks0
                              clear hT hr hv9 ks0
                              go_wp2_with fail
                              refine KS.out.mono ?_
                              rintro e w9 ⟨rfl, h9, c9⟩
                              have HS9 := Lib.hid (HS8.out.turn h9 c9 HSN.out)
                              clear h9 c9 d0 d1 d2
                              go_wp2_with fail
                              go_roundw
                              case rel => exact ⟨i + 1, _, _, _, by omega, by go_num, HS9.out, HV9.out⟩
                              case measure => simp [intOf]; omega
                            · rw [if_neg hr] at ks0
                              have KS := Lib.hid ks0
                              clear ks0
                              have hT : tellsL r (p + 1) (r.cnt u) = (decide (r.half = 2) || decide (r.cnt u = u)) := by unfold tellsL; simp [hr, hnn]
                              clear hr
                              by_cases h2 : r.half = 2
                              · rw [h2] at hT
                                simp only [decide_true, Bool.true_or] at hT
                                rw [hT] at hv9
                                have HV9 := Lib.hid hv9
                                have gh2 : ((r.half : Int) == 2) = true := beq_iff_eq.2 (by omega)
                                clear hT hv9
                                go_wp2_with fail
                                refine KS.out.mono ?_
                                rintro e w9 ⟨rfl, h9, c9⟩
                                have HS9 := Lib.hid (HS8.out.turn h9 c9 HSN.out)
                                have e9 := HS9.out.toldCell (p := p + 1) (by omega)
                                have z9 := HS9.out.toldFree (p + 1)
                                have HS10 := Lib.hid (HS9.out.tell (p := p + 1) (by omega))
                                clear h9 c9 d0 d1 d2 HS8 KS
                                go_upto_region 41 with (fail)
                                generalize w9.setCell ⟨TB, p + 1, none⟩ (.bool true) = w10 at *
                                clear e9 z9 HS9
                                obtain ⟨d0, d1, d2⟩ : w10.cell? ⟨b1, o1 + p * 3, none⟩ = some (.int .i64 (f p).T) ∧ w10.cell? ⟨b1, o1 + p * 3 + 1, none⟩ = some (.int .i64 (f p).O) ∧ w10.cell? ⟨b1, o1 + p * 3 + 2, none⟩ = some (.int .i64 (f p).S) := by
                                  rcases H1.out.keep HS10.out.bel with h0 | ⟨b2, o2, e2, hcw⟩
                                  · omega
                                  · injection e2 with e2
                                    injection e2 with e3 e4
                                    subst e3 e4
                                    exact hcw p hpu
                                go_wp2_with fail
                                refine (lower_any LB low (f p) w10 HS10.out.lw).mono ?_
                                rintro e w11 ⟨rfl, hl11, c11⟩
                                have HS11 := Lib.hid (HS10.out.lower hl11 c11)
                                clear hl11 c11 d0 d1 d2 HS10
                                go_wp2_with fail
                                go_roundw
                                case rel => exact ⟨i + 1, _, _, _, by omega, by go_num, HS11.out, HV9.out⟩
                                case measure => simp [intOf]; omega
                              · have gh2 : ((r.half : Int) == 2) = false := beq_eq_false_iff_ne.2 (by omega)
                                have gh3 : decide (r.half = 2) = false := by simp [h2]
                                rw [gh3, Bool.false_or] at hT
                                by_cases hcu : r.cnt u = u
                                · rw [hcu] at hT
                                  have gcu : ((r.cnt u : Int) == (u : Int)) = true := beq_iff_eq.2 (by omega)
                                  simp only [decide_true] at hT
                                  rw [hcu] at hv9
                                  rw [hT] at hv9
                                  have HV9 := Lib.hid hv9
                                  clear hT hv9
                                  rw [hcu] at gcu ⊢
                                  clear hcu
                                  go_wp2_with fail
                                  refine KS.out.mono ?_
                                  rintro e w9 ⟨rfl, h9, c9⟩
                                  have HS9 := Lib.hid (HS8.out.turn h9 c9 HSN.out)
                                  have e9 := HS9.out.toldCell (p := p + 1) (by omega)
                                  have z9 := HS9.out.toldFree (p + 1)
                                  have HS10 := Lib.hid (HS9.out.tell (p := p + 1) (by omega))
                                  clear h9 c9 d0 d1 d2 HS8 KS
                                  go_upto_region 41 with (fail)
                                  generalize w9.setCell ⟨TB, p + 1, none⟩ (.bool true) = w10 at *
                                  clear e9 z9 HS9
                                  obtain ⟨d0, d1, d2⟩ : w10.cell? ⟨b1, o1 + p * 3, none⟩ = some (.int .i64 (f p).T) ∧ w10.cell? ⟨b1, o1 + p * 3 + 1, none⟩ = some (.int .i64 (f p).O) ∧ w10.cell? ⟨b1, o1 + p * 3 + 2, none⟩ = some (.int .i64 (f p).S) := by
                                    rcases H1.out.keep HS10.out.bel with h0 | ⟨b2, o2, e2, hcw⟩
                                    · omega
                                    · injection e2 with e2
                                      injection e2 with e3 e4
                                      subst e3 e4
                                      exact hcw p hpu
                                  go_wp2_with fail
                                  refine (lower_any LB low (f p) w10 HS10.out.lw).mono ?_
                                  rintro e w11 ⟨rfl, hl11, c11⟩
                                  have HS11 := Lib.hid (HS10.out.lower hl11 c11)
                                  clear hl11 c11 d0 d1 d2 HS10
                                  go_wp2_with fail
                                  go_roundw
                                  case rel => exact ⟨i + 1, _, _, _, by omega, by go_num, HS11.out, HV9.out⟩
                                  case measure => simp [intOf]; omega
                                · have gcu : ((r.cnt u : Int) == (u : Int)) = false := beq_eq_false_iff_ne.2 (by omega)
                                  have gcu2 : decide (r.cnt u = u) = false := by simp [hcu]
                                  rw [gcu2] at hT
                                  rw [hT] at hv9
                                  have HV9 := Lib.hid hv9
                                  clear hT hv9
                                  go_wp2_with fail
                                  refine KS.out.mono ?_
                                  rintro e w9 ⟨rfl, h9, c9⟩
                                  have HS9 := Lib.hid (HS8.out.turn h9 c9 HSN.out)
                                  clear h9 c9 d0 d1 d2
                                  go_wp2_with fail
                                  go_roundw
                                  case rel => exact ⟨i + 1, _, _, _, by omega, by go_num, HS9.out, HV9.out⟩
                                  case measure => simp [intOf]; omega
                        · go_wp2_with fail
                          go_roundw
                          case rel => exact ⟨i + 1, r, low, told, by omega, by go_num, HS8.out, HV.out⟩
                          case measure => simp [intOf]; omega
                      · go_wp2_with fail
                        go_roundw
                        case rel => exact ⟨i + 1, r, low, told, by omega, by go_num, HS8.out, HV.out⟩
                        case measure => simp [intOf]; omega
        · have gi : ¬ (i : Int) < (m : Int) + 2 * (n : Int) := by omega
          by_cases hh : r.half = 0
          · go_wp2_with fail
            have hs := HS0.out
            have hv := HV0.out
            have his := (hv.done hh).1
            have hle := (hv.done hh).2
            have HLE := Lib.hid hle
            have HS := Lib.hid hs
            clear hs hv hle
            refine (bound_yes R C S L r _ HS.out.rm his).mono ?_
            rintro e w7 ⟨rfl, b7⟩
            have HS7 := Lib.hid (HS.out.fresh b7)
            clear b7 HS
            go_upto_region 43 with (fail)
            have hk := Blk.last w7 27 #[.int .i64 r.bnd.T, .int .i64 r.bnd.O, .int .i64 r.bnd.S] rfl
            have HS8 := Lib.hid (HS7.out.fresh ((Nw.refl w7).alloc (.cells #[.int .i64 r.bnd.T, .int .i64 r.bnd.O, .int .i64 r.bnd.S] 27)))
            generalize w7.alloc (.cells #[.int .i64 r.bnd.T, .int .i64 r.bnd.O, .int .i64 r.bnd.S] 27) = w8 at hk HS8 ⊢
            generalize w7.heap.size = gk at hk ⊢
            have k0 : w8.cell? ⟨gk, 0, none⟩ = some (.int .i64 r.bnd.T) := hk.cell 0
            have k1 : w8.cell? ⟨gk, 1, none⟩ = some (.int .i64 r.bnd.O) := hk.cell 1
            have k2 : w8.cell? ⟨gk, 2, none⟩ = some (.int .i64 r.bnd.S) := hk.cell 2
            have l0 : w8.cell? ⟨LB, 0, none⟩ = some (.int .i64 low.T) := HS8.out.lw.cell 0
            have l1 : w8.cell? ⟨LB, 1, none⟩ = some (.int .i64 low.O) := HS8.out.lw.cell 1
            have l2 : w8.cell? ⟨LB, 2, none⟩ = some (.int .i64 low.S) := HS8.out.lw.cell 2
            clear hk HS7
            go_wp2_with fail
            refine (refCompare_any r.bnd low _).mono ?_
            rintro e w9 ⟨rfl, b9⟩
            have HS9 := Lib.hid (HS8.out.fresh b9)
            have gc : r.bnd.cmp low ≤ 0 := by have := HLE.out; unfold Ky.le at this; unfold Ky.cmp; rw [this]; split <;> simp
            clear b9 HS8 k0 k1 k2 l0 l1 l2
            generalize r.bnd.cmp low = cc at *
            go_wp2_with fail
            refine (k.out _).mono ?_
            rintro e w10 ⟨rfl, b10⟩
            go_wp2_with fail
            go_ret
            exact ⟨rfl, (HS9.out.fresh b10).bel⟩
          · go_wp2_with fail
            have hs := HS0.out
            have hv := HV0.out
            have his := (hv.opn hh).1
            have HS := Lib.hid hs
            clear hs hv
            refine (bound_no R C S L r _ HS.out.rm his).mono ?_
            rintro e w7 ⟨rfl, b7⟩
            have HB7 := Lib.hid (HS.out.bel.trans (b7.mono HS.out.bel.size))
            clear b7 HS
            go_wp2_with fail
            refine (k.out _).mono ?_
            rintro e w8 ⟨rfl, b8⟩
            have HB8 := Lib.hid (HB7.out.trans (((Nw.refl w7).alloc _).step b8 |> fun g => (show Below w7.heap.size w7 w8 from g).mono HB7.out.size))
            go_wp2_with fail
            go_ret
            exact ⟨rfl, HB8.out⟩
end Go.Proofs.Ytbgpbbepeemieaa
