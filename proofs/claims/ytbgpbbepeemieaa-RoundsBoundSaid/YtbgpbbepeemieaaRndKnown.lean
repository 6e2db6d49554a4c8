/- Rounds: the chapter's rows. Helper. -/
import Derived.Test.YtbgpbbepeemieaaRndSeeA
import Derived.Test.YtbgpbbepeemieaaRndSeeB
import Derived.Test.YtbgpbbepeemieaaRndSent
import Derived.Test.YtbgpbbepeemieaaRndNew
import Derived.Test.YtbgpbbepeemieaaRndNil
namespace Go.Proofs.Ytbgpbbepeemieaa
open Go.RowKit
set_option linter.unusedVariables false
set_option linter.unusedSimpArgs false
def q1 : Rn := (Rn.new 2).begun
def q2 : Rn := q1.seeOne 1
def q3 (b : Bool) : Rn := if b then q2.sentTo 1 ⟨3, 0, 0⟩ else q2
def q4 (b : Bool) : Rn := (q3 b).seeOne 2
def q5 (b : Bool) : Rn := { q4 b with half := 2, seen := 1 :: [], rep := (q4 b).rep.min ((⟨5, 0, 0⟩ : Ky).min ((q4 b).least 1)) }
def q6 (b : Bool) : Rn := { q5 b with seen := 2 :: (q5 b).seen, rep := (q5 b).rep.min ((⟨9, 0, 0⟩ : Ky).min ((q5 b).least 2)), half := 0, bnd := ((q5 b).rep.min ((⟨9, 0, 0⟩ : Ky).min ((q5 b).least 2))).min ((q5 b).least 0), is := true }
theorem q6_bnd : (q6 false).bnd = ⟨5, 0, 0⟩ ∧ (q6 true).bnd = ⟨3, 0, 0⟩ := by constructor <;> decide
/-- What one round of it does. -/

theorem half_is (R C S L : Nat) (r : Rn) (v : Nat) (w : World) (h : RM w R C S L r) (hv : r.half = v) :
    Calls Try.prog 11 #[.pointer (some ⟨R, 0, none⟩)] w fun e w' => e = .returned (.int .i64 (v : Int)) ∧ w' = w := by
  have := half_any R C S L r w h
  rw [hv] at this
  exact this
theorem bound_is (R C S L : Nat) (r : Rn) (k : Ky) (w : World) (h : RM w R C S L r) (hi : r.is = true) (hk : r.bnd = k) :
    Calls Try.prog 17 #[.pointer (some ⟨R, 0, none⟩)] w fun e w' => e = .returned (.tuple #[.agg #[.int .i64 k.T, .int .i64 k.O, .int .i64 k.S], .bool true]) ∧ Below w.heap.size w w' := by
  have := bound_yes R C S L r w h hi
  rw [hk] at this
  exact this
set_option maxRecDepth 100000 in
set_option maxHeartbeats 3200000 in
theorem known_any (w : World) : Calls Try.prog 5 #[] w fun e w' => e = .returned (.bool true) ∧ Below w.heap.size w w' := by
  go_enter Try.func5, Try.ntmps5
  go_wp2
  go_loopw [1] (fun t wr => (t = .int .i64 0 ∨ t = .int .i64 1 ∨ t = .int .i64 2) ∧ Below w.heap.size w wr) (fun t _ => 2 - (intOf t).toNat)
  case atStart => exact ⟨.inl rfl, Below.refl _ _⟩
  case round =>
    obtain ⟨ht, hb⟩ := hrel
    rcases ht with rfl | rfl | rfl
    · skip
      go_wp2_with fail
      refine (new_any 2 wr (by decide) (by decide)).mono ?_
      rintro e w1 ⟨R, C, S, L, rfl, h1, b1, hf⟩
      have k1 : Below w.heap.size w w1 := hb.trans (b1.mono hb.size)
      have kk : ∀ a b : World, Below w.heap.size w a → Chg (Four R C S L) a b → Below w.heap.size w b := fun a b ha hc => ha.trans (hc.below (fun i _ hi => Nat.le_trans hb.size (hf i hi)) ha.size)
      have KK := Lib.hid kk
      have H1 := Lib.hid h1
      have K1 := Lib.hid k1
      clear h1 k1 b1 hf kk hb
      go_wp2_with fail
      refine (begin_any R C S L (Rn.new 2) w1 H1.out rfl (by decide)).mono ?_
      rintro e w2 ⟨rfl, g2, c2⟩
      have h2 : RM w2 R C S L q1 := g2
      have k2 : Below w.heap.size w w2 := KK.out _ _ K1.out c2
      have H2 := Lib.hid h2
      have K2 := Lib.hid k2
      clear h2 k2 g2 c2 H1 K1
      go_wp2_with fail
      refine (at_any 5 w2).mono ?_
      rintro e w3 ⟨rfl, b3⟩
      have h3 : RM w3 R C S L q1 := H2.out.new b3
      have k3 : Below w.heap.size w w3 := K2.out.trans (b3.mono K2.out.size)
      have H3 := Lib.hid h3
      have K3 := Lib.hid k3
      clear h3 k3 b3 H2 K2
      go_wp2_with fail
      refine (see_one R C S L q1 1 ⟨5, 0, 0⟩ w3 H3.out (by decide) (by decide) rfl (by decide) (by decide)).mono ?_
      rintro e w4 ⟨rfl, g4, c4⟩
      have h4 : RM w4 R C S L q2 := g4
      have k4 : Below w.heap.size w w4 := KK.out _ _ K3.out c4
      have H4 := Lib.hid h4
      have K4 := Lib.hid k4
      clear h4 k4 g4 c4 H3 K3
      have H4' : Hid (RM w4 R C S L (q3 false)) := Lib.hid H4.out
      clear H4
      have H4 := H4'
      clear H4'
      go_wp2_with fail
      refine (at_any 9 w4).mono ?_
      rintro e w5 ⟨rfl, b5⟩
      have h5 : RM w5 R C S L (q3 false) := H4.out.new b5
      have k5 : Below w.heap.size w w5 := K4.out.trans (b5.mono K4.out.size)
      have H5 := Lib.hid h5
      have K5 := Lib.hid k5
      clear h5 k5 b5 H4 K4
      go_wp2_with fail
      refine (see_one R C S L (q3 false) 2 ⟨9, 0, 0⟩ w5 H5.out (by decide) (by decide) rfl (by decide) (by decide)).mono ?_
      rintro e w6 ⟨rfl, g6, c6⟩
      have h6 : RM w6 R C S L (q4 false) := g6
      have k6 : Below w.heap.size w w6 := KK.out _ _ K5.out c6
      have H6 := Lib.hid h6
      have K6 := Lib.hid k6
      clear h6 k6 g6 c6 H5 K5
      go_wp2_with fail
      refine (at_any 5 w6).mono ?_
      rintro e w7 ⟨rfl, b7⟩
      have h7 : RM w7 R C S L (q4 false) := H6.out.new b7
      have k7 : Below w.heap.size w w7 := K6.out.trans (b7.mono K6.out.size)
      have H7 := Lib.hid h7
      have K7 := Lib.hid k7
      clear h7 k7 b7 H6 K6
      go_wp2_with fail
      refine (see_turn R C S L (q4 false) 1 ⟨5, 0, 0⟩ w7 H7.out (by decide) (by decide) rfl rfl (by decide)).mono ?_
      rintro e w8 ⟨rfl, g8, c8⟩
      have h8 : RM w8 R C S L (q5 false) := g8
      have k8 : Below w.heap.size w w8 := KK.out _ _ K7.out c8
      have H8 := Lib.hid h8
      have K8 := Lib.hid k8
      clear h8 k8 g8 c8 H7 K7
      go_wp2_with fail
      refine (half_is R C S L (q5 false) 2 w8 H8.out rfl).mono ?_
      rintro e wh ⟨rfl, hw⟩
      obtain rfl := hw.symm
      go_wp2_with fail
      refine (at_any 9 w8).mono ?_
      rintro e w9 ⟨rfl, b9⟩
      have h9 : RM w9 R C S L (q5 false) := H8.out.new b9
      have k9 : Below w.heap.size w w9 := K8.out.trans (b9.mono K8.out.size)
      have H9 := Lib.hid h9
      have K9 := Lib.hid k9
      clear h9 k9 b9 H8 K8
      go_wp2_with fail
      refine (see_end R C S L (q5 false) 2 ⟨9, 0, 0⟩ w9 H9.out (by decide) (by decide) rfl (by decide) (by decide)).mono ?_
      rintro e w10 ⟨rfl, g10, c10⟩
      have h10 : RM w10 R C S L (q6 false) := g10
      have k10 : Below w.heap.size w w10 := KK.out _ _ K9.out c10
      have H10 := Lib.hid h10
      have K10 := Lib.hid k10
      clear h10 k10 g10 c10 H9 K9
      go_wp2_with fail
      refine (half_is R C S L (q6 false) 0 w10 H10.out rfl).mono ?_
      rintro e wh ⟨rfl, hw⟩
      obtain rfl := hw.symm
      go_wp2_with fail
      refine (bound_is R C S L (q6 false) ⟨5, 0, 0⟩ w10 H10.out rfl (q6_bnd.1)).mono ?_
      rintro e w11 ⟨rfl, b11⟩
      have h11 : RM w11 R C S L (q6 false) := H10.out.new b11
      have k11 : Below w.heap.size w w11 := K10.out.trans (b11.mono K10.out.size)
      have H11 := Lib.hid h11
      have K11 := Lib.hid k11
      clear h11 k11 b11 H10 K10
      go_upto_region 12 with (fail)
      have hk := Blk.last w11 27 #[.int .i64 5, .int .i64 0, .int .i64 0] rfl
      have kk : Below w.heap.size w (w11.alloc (.cells #[.int .i64 5, .int .i64 0, .int .i64 0] 27)) := K11.out.trans (((Nw.refl w11).alloc _ : Below _ _ _).mono K11.out.size)
      generalize w11.alloc (.cells #[.int .i64 5, .int .i64 0, .int .i64 0] 27) = wk at hk kk ⊢
      generalize w11.heap.size = gk at hk ⊢
      have k0 : wk.cell? ⟨gk, 0, none⟩ = some (.int .i64 5) := hk.cell 0
      have k1 : wk.cell? ⟨gk, 1, none⟩ = some (.int .i64 0) := hk.cell 1
      have k2 : wk.cell? ⟨gk, 2, none⟩ = some (.int .i64 0) := hk.cell 2
      have HK := Lib.hid hk
      have KB := Lib.hid kk
      clear hk kk
      have ka := Lib.hid (fun W => at_any 5 W)
      go_region_with ((go_at_call 18; refine (ka.out _).mono ?_; rintro e wl ⟨rfl, bl⟩; have nl : Nw wk wl := (Nw.drew (Nw.refl wk)).step bl; have l0 := nl.cell k0; have l1 := nl.cell k1; have l2 := nl.cell k2; have NL := Lib.hid nl; clear nl bl))
      all_goals
        go_wp2_with fail
        go_roundw
        case rel => exact ⟨.inr (.inl rfl), KB.out.trans (NL.out.mono KB.out.size)⟩
        case measure => simp [intOf]
    · skip
      go_wp2_with fail
      refine (new_any 2 wr (by decide) (by decide)).mono ?_
      rintro e w1 ⟨R, C, S, L, rfl, h1, b1, hf⟩
      have k1 : Below w.heap.size w w1 := hb.trans (b1.mono hb.size)
      have kk : ∀ a b : World, Below w.heap.size w a → Chg (Four R C S L) a b → Below w.heap.size w b := fun a b ha hc => ha.trans (hc.below (fun i _ hi => Nat.le_trans hb.size (hf i hi)) ha.size)
      have KK := Lib.hid kk
      have H1 := Lib.hid h1
      have K1 := Lib.hid k1
      clear h1 k1 b1 hf kk hb
      go_wp2_with fail
      refine (begin_any R C S L (Rn.new 2) w1 H1.out rfl (by decide)).mono ?_
      rintro e w2 ⟨rfl, g2, c2⟩
      have h2 : RM w2 R C S L q1 := g2
      have k2 : Below w.heap.size w w2 := KK.out _ _ K1.out c2
      have H2 := Lib.hid h2
      have K2 := Lib.hid k2
      clear h2 k2 g2 c2 H1 K1
      go_wp2_with fail
      refine (at_any 5 w2).mono ?_
      rintro e w3 ⟨rfl, b3⟩
      have h3 : RM w3 R C S L q1 := H2.out.new b3
      have k3 : Below w.heap.size w w3 := K2.out.trans (b3.mono K2.out.size)
      have H3 := Lib.hid h3
      have K3 := Lib.hid k3
      clear h3 k3 b3 H2 K2
      go_wp2_with fail
      refine (see_one R C S L q1 1 ⟨5, 0, 0⟩ w3 H3.out (by decide) (by decide) rfl (by decide) (by decide)).mono ?_
      rintro e w4 ⟨rfl, g4, c4⟩
      have h4 : RM w4 R C S L q2 := g4
      have k4 : Below w.heap.size w w4 := KK.out _ _ K3.out c4
      have H4 := Lib.hid h4
      have K4 := Lib.hid k4
      clear h4 k4 g4 c4 H3 K3
      go_wp2_with fail
      refine (at_any 3 w4).mono ?_
      rintro e w5 ⟨rfl, b5⟩
      have h5 : RM w5 R C S L q2 := H4.out.new b5
      have k5 : Below w.heap.size w w5 := K4.out.trans (b5.mono K4.out.size)
      have H5 := Lib.hid h5
      have K5 := Lib.hid k5
      clear h5 k5 b5 H4 K4
      go_wp2_with fail
      refine (sent_yes R C S L q2 1 ⟨3, 0, 0⟩ w5 H5.out (by decide) (by decide) (by decide)).mono ?_
      rintro e w6 ⟨rfl, g6, c6⟩
      have h6 : RM w6 R C S L (q3 true) := g6
      have k6 : Below w.heap.size w w6 := KK.out _ _ K5.out c6
      have H6 := Lib.hid h6
      have K6 := Lib.hid k6
      clear h6 k6 g6 c6 H5 K5
      go_wp2_with fail
      refine (at_any 9 w6).mono ?_
      rintro e w7 ⟨rfl, b7⟩
      have h7 : RM w7 R C S L (q3 true) := H6.out.new b7
      have k7 : Below w.heap.size w w7 := K6.out.trans (b7.mono K6.out.size)
      have H7 := Lib.hid h7
      have K7 := Lib.hid k7
      clear h7 k7 b7 H6 K6
      go_wp2_with fail
      refine (see_one R C S L (q3 true) 2 ⟨9, 0, 0⟩ w7 H7.out (by decide) (by decide) rfl (by decide) (by decide)).mono ?_
      rintro e w8 ⟨rfl, g8, c8⟩
      have h8 : RM w8 R C S L (q4 true) := g8
      have k8 : Below w.heap.size w w8 := KK.out _ _ K7.out c8
      have H8 := Lib.hid h8
      have K8 := Lib.hid k8
      clear h8 k8 g8 c8 H7 K7
      go_wp2_with fail
      refine (at_any 5 w8).mono ?_
      rintro e w9 ⟨rfl, b9⟩
      have h9 : RM w9 R C S L (q4 true) := H8.out.new b9
      have k9 : Below w.heap.size w w9 := K8.out.trans (b9.mono K8.out.size)
      have H9 := Lib.hid h9
      have K9 := Lib.hid k9
      clear h9 k9 b9 H8 K8
      go_wp2_with fail
      refine (see_turn R C S L (q4 true) 1 ⟨5, 0, 0⟩ w9 H9.out (by decide) (by decide) rfl rfl (by decide)).mono ?_
      rintro e w10 ⟨rfl, g10, c10⟩
      have h10 : RM w10 R C S L (q5 true) := g10
      have k10 : Below w.heap.size w w10 := KK.out _ _ K9.out c10
      have H10 := Lib.hid h10
      have K10 := Lib.hid k10
      clear h10 k10 g10 c10 H9 K9
      go_wp2_with fail
      refine (half_is R C S L (q5 true) 2 w10 H10.out rfl).mono ?_
      rintro e wh ⟨rfl, hw⟩
      obtain rfl := hw.symm
      go_wp2_with fail
      refine (at_any 9 w10).mono ?_
      rintro e w11 ⟨rfl, b11⟩
      have h11 : RM w11 R C S L (q5 true) := H10.out.new b11
      have k11 : Below w.heap.size w w11 := K10.out.trans (b11.mono K10.out.size)
      have H11 := Lib.hid h11
      have K11 := Lib.hid k11
      clear h11 k11 b11 H10 K10
      go_wp2_with fail
      refine (see_end R C S L (q5 true) 2 ⟨9, 0, 0⟩ w11 H11.out (by decide) (by decide) rfl (by decide) (by decide)).mono ?_
      rintro e w12 ⟨rfl, g12, c12⟩
      have h12 : RM w12 R C S L (q6 true) := g12
      have k12 : Below w.heap.size w w12 := KK.out _ _ K11.out c12
      have H12 := Lib.hid h12
      have K12 := Lib.hid k12
      clear h12 k12 g12 c12 H11 K11
      go_wp2_with fail
      refine (half_is R C S L (q6 true) 0 w12 H12.out rfl).mono ?_
      rintro e wh ⟨rfl, hw⟩
      obtain rfl := hw.symm
      go_wp2_with fail
      refine (bound_is R C S L (q6 true) ⟨3, 0, 0⟩ w12 H12.out rfl (q6_bnd.2)).mono ?_
      rintro e w13 ⟨rfl, b13⟩
      have h13 : RM w13 R C S L (q6 true) := H12.out.new b13
      have k13 : Below w.heap.size w w13 := K12.out.trans (b13.mono K12.out.size)
      have H13 := Lib.hid h13
      have K13 := Lib.hid k13
      clear h13 k13 b13 H12 K12
      go_upto_region 12 with (fail)
      have hk := Blk.last w13 27 #[.int .i64 3, .int .i64 0, .int .i64 0] rfl
      have kk : Below w.heap.size w (w13.alloc (.cells #[.int .i64 3, .int .i64 0, .int .i64 0] 27)) := K13.out.trans (((Nw.refl w13).alloc _ : Below _ _ _).mono K13.out.size)
      generalize w13.alloc (.cells #[.int .i64 3, .int .i64 0, .int .i64 0] 27) = wk at hk kk ⊢
      generalize w13.heap.size = gk at hk ⊢
      have k0 : wk.cell? ⟨gk, 0, none⟩ = some (.int .i64 3) := hk.cell 0
      have k1 : wk.cell? ⟨gk, 1, none⟩ = some (.int .i64 0) := hk.cell 1
      have k2 : wk.cell? ⟨gk, 2, none⟩ = some (.int .i64 0) := hk.cell 2
      have HK := Lib.hid hk
      have KB := Lib.hid kk
      clear hk kk
      have ka := Lib.hid (fun W => at_any 3 W)
      go_region_with ((go_at_call 18; refine (ka.out _).mono ?_; rintro e wl ⟨rfl, bl⟩; have nl : Nw wk wl := (Nw.drew (Nw.refl wk)).step bl; have l0 := nl.cell k0; have l1 := nl.cell k1; have l2 := nl.cell k2; have NL := Lib.hid nl; clear nl bl))
      all_goals
        go_wp2_with fail
        go_roundw
        case rel => exact ⟨.inr (.inr rfl), KB.out.trans (NL.out.mono KB.out.size)⟩
        case measure => simp [intOf]
    · go_wp2
      go_ret
      exact ⟨rfl, hb⟩
end Go.Proofs.Ytbgpbbepeemieaa
