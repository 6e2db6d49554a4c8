/- RoundsNil's walk. -/
import Derived.Test.YtbgpbbepeemieaaRndKnown
namespace Go.Proofs.Ytbgpbbepeemieaa
open Go.RowKit
set_option linter.unusedVariables false
set_option linter.unusedSimpArgs false
set_option maxRecDepth 100000 in
set_option maxHeartbeats 3200000 in
theorem roundsNil_any (w : World) : Calls Try.prog 4 #[] w fun e w' => e = .returned (.bool true) ∧ Below w.heap.size w w' := by
  have i0 : Nw w (w.alloc (.cells #[.int .i64 0, .int .i64 0, .slice none 0 0, .map none, .slice none 0 0, .int .i64 0, .int .i64 0, .int .i64 0, .int .i64 0, .int .i64 0, .int .i64 0, .bool false] 49)) := (Nw.refl w).alloc _
  have u : Blk (w.alloc (.cells #[.int .i64 0, .int .i64 0, .slice none 0 0, .map none, .slice none 0 0, .int .i64 0, .int .i64 0, .int .i64 0, .int .i64 0, .int .i64 0, .int .i64 0, .bool false] 49)) w.heap.size 49 #[.int .i64 0, .int .i64 0, .slice none 0 0, .map none, .slice none 0 0, .int .i64 0, .int .i64 0, .int .i64 0, .int .i64 0, .int .i64 0, .int .i64 0, .bool false] := Blk.last w _ _ rfl
  go_enter Try.func4, Try.ntmps4
  go_upto_region 3 with (fail)
  generalize w.alloc (.cells #[.int .i64 0, .int .i64 0, .slice none 0 0, .map none, .slice none 0 0, .int .i64 0, .int .i64 0, .int .i64 0, .int .i64 0, .int .i64 0, .int .i64 0, .bool false] 49) = wz at i0 u ⊢
  have z2 : wz.cell? ⟨w.heap.size, 2, none⟩ = some (.slice none 0 0) := u.cell 2
  obtain ⟨gz, hgz⟩ : ∃ gz, w.heap.size = gz := ⟨_, rfl⟩
  have I0 := Lib.hid i0
  rw [hgz] at z2 ⊢
  have nz : No wz (.pointer (some ⟨gz, 0, none⟩)) := .inr ⟨gz, rfl, z2⟩
  have NZ := Lib.hid nz
  have n0 := Nw.refl wz
  have N0 := Lib.hid n0
  clear u z2 i0 nz n0 hgz
  go_wp2_with fail
  refine (at_any 1 wz).mono ?_
  rintro e w1 ⟨rfl, b1⟩
  have n1 : Nw wz w1 := N0.out.step b1
  have N1 := Lib.hid n1
  clear b1 n1 N0
  go_wp2_with fail
  refine (sent_nil 1 1 0 0 w1).mono ?_
  rintro e w2 ⟨rfl, b2⟩
  have n2 : Nw wz w2 := N1.out.step b2
  have N2 := Lib.hid n2
  clear b2 n2 N1
  go_wp2_with fail
  refine (at_any 1 w2).mono ?_
  rintro e w3 ⟨rfl, b3⟩
  have n3 : Nw wz w3 := N2.out.step b3
  have N3 := Lib.hid n3
  clear b3 n3 N2
  go_wp2_with fail
  refine (lower_no (.pointer (some ⟨gz, 0, none⟩)) 1 0 0 w3 (NZ.out.new N3.out)).mono ?_
  rintro e w4 ⟨rfl, b4⟩
  have n4 : Nw wz w4 := N3.out.step b4
  have N4 := Lib.hid n4
  clear b4 n4 N3
  go_wp2_with fail
  refine (bound_nil w4).mono ?_
  rintro e w5 ⟨rfl, b5⟩
  have n5 : Nw wz w5 := N4.out.step b5
  have N5 := Lib.hid n5
  clear b5 n5 N4
  go_wp2_with fail
  refine (new_any 1 _ (by decide) (by decide)).mono ?_
  rintro e w6 ⟨R, C, S, L, rfl, h0, b6, _⟩
  have n6 : Nw wz w6 := (N5.out.alloc _).step b6
  have N6 := Lib.hid n6
  have H0 := Lib.hid h0
  have base6 := Nw.refl w6
  have BB := Lib.hid base6
  clear b6 n6 N5 h0 base6
  go_wp2_with fail
  refine (begin_no (.pointer none) w6 (No.nil w6)).mono ?_
  rintro e wh ⟨rfl, hw⟩
  obtain rfl := hw.symm
  go_wp2_with fail
  refine (begin_no (.pointer (some ⟨gz, 0, none⟩)) w6 (NZ.out.new N6.out)).mono ?_
  rintro e wh ⟨rfl, hw⟩
  obtain rfl := hw.symm
  go_wp2_with fail
  refine (at_any 1 w6).mono ?_
  rintro e w7 ⟨rfl, b7⟩
  have n7 : Nw wz w7 := N6.out.step b7
  have N7 := Lib.hid n7
  have h7 := H0.out.new b7
  clear H0
  have H0 := Lib.hid h7
  clear b7 n7 h7 N6
  go_wp2_with fail
  refine (see_no (.pointer none) 1 0 1 0 0 w7 (No.nil w7)).mono ?_
  rintro e w8 ⟨rfl, b8⟩
  have n8 : Nw wz w8 := N7.out.step b8
  have N8 := Lib.hid n8
  have h8 := H0.out.new b8
  clear H0
  have H0 := Lib.hid h8
  clear b8 n8 h8 N7
  go_wp2_with fail
  refine (colour_no (.pointer none) 1 w8 (No.nil w8)).mono ?_
  rintro e wh ⟨rfl, hw⟩
  obtain rfl := hw.symm
  go_wp2_with fail
  refine (half_no (.pointer none) w8 (No.nil w8)).mono ?_
  rintro e wh ⟨rfl, hw⟩
  obtain rfl := hw.symm
  go_wp2_with fail
  refine (number_no (.pointer (some ⟨gz, 0, none⟩)) w8 (NZ.out.new N8.out)).mono ?_
  rintro e wh ⟨rfl, hw⟩
  obtain rfl := hw.symm
  go_wp2_with fail
  refine (copy_no (.pointer none) w8 (No.nil w8)).mono ?_
  rintro e wh ⟨rfl, hw⟩
  obtain rfl := hw.symm
  go_wp2_with fail
  refine (same_both (.pointer none) (.pointer (some ⟨gz, 0, none⟩)) w8 (No.nil w8) (NZ.out.new N8.out)).mono ?_
  rintro e wh ⟨rfl, hw⟩
  obtain rfl := hw.symm
  go_wp2_with fail
  refine (same_both (.pointer (some ⟨gz, 0, none⟩)) (.pointer none) w8 (NZ.out.new N8.out) (No.nil w8)).mono ?_
  rintro e wh ⟨rfl, hw⟩
  obtain rfl := hw.symm
  go_wp2_with fail
  refine (same_left (.pointer none) R C S L _ w8 (No.nil w8) H0.out).mono ?_
  rintro e wh ⟨rfl, hw⟩
  obtain rfl := hw.symm
  go_wp2_with fail
  refine (same_right (.pointer none) R C S L _ w8 (No.nil w8) H0.out).mono ?_
  rintro e wh ⟨rfl, hw⟩
  obtain rfl := hw.symm
  go_wp2_with fail
  refine (known_any w8).mono ?_
  rintro e w9 ⟨rfl, b9⟩
  have n9 : Nw wz w9 := N8.out.step b9
  have N9 := Lib.hid n9
  clear b9 n9 N8
  go_wp2_with fail
  go_ret
  exact ⟨rfl, I0.out.step N9.out⟩
end Go.Proofs.Ytbgpbbepeemieaa
