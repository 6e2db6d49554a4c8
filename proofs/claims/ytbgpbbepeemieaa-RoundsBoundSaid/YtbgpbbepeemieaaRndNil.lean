/- Rounds that are not there. Helper. -/
import Derived.Test.YtbgpbbepeemieaaRndBegin
import Derived.Deep.QuietTactic
import Derived.BigQuiet
namespace Go.Proofs.Ytbgpbbepeemieaa
open Go.RowKit
set_option linter.unusedVariables false
set_option linter.unusedSimpArgs false
theorem at_any (n : Int) (w : World) : Calls Try.prog 18 #[.int .i64 n] w fun e w' => e = .returned (.agg #[.int .i64 n, .int .i64 0, .int .i64 0]) ∧ Below w.heap.size w w' := by
  go_enter Try.func18, Try.ntmps18
  go_wp2
  exact bodyPost_ret (v := .agg #[.int .i64 n, .int .i64 0, .int .i64 0]) (by simp [results, Try.results18, go_sem]) rfl ⟨rfl, by repeat (first | exact Below.refl _ _ | refine Below.setCell ?_ (by simp) _ | refine Below.alloc ?_ (by simp) _)⟩
/-- A pointer to no rounds. -/
def No (w : World) (v : Value) : Prop := v = .pointer none ∨ ∃ Z, v = .pointer (some ⟨Z, 0, none⟩) ∧ w.cell? ⟨Z, 2, none⟩ = some (.slice none 0 0)
theorem No.nil (w : World) : No w (.pointer none) := .inl rfl
theorem No.new {w w' : World} {v : Value} (h : No w v) (hB : Nw w w') : No w' v := by
  rcases h with rfl | ⟨Z, rfl, h⟩
  · exact .inl rfl
  · exact .inr ⟨Z, rfl, hB.cell h⟩
theorem none_no (v : Value) (w : World) (h : No w v) : Calls Try.prog 22 #[v] w fun e w' => e = .returned (.bool true) ∧ w' = w := by
  rcases h with rfl | ⟨Z, rfl, h⟩
  · exact none_nil w
  · exact none_zero Z w h
theorem begin_no (v : Value) (w : World) (h : No w v) : Calls Try.prog 7 #[v] w fun e w' => e = .returned (.int .i64 1) ∧ w' = w := by
  have k := Lib.hid (none_no v w h)
  clear h
  go_enter Try.func7, Try.ntmps7
  go_wp2_with fail
  refine k.out.mono ?_
  rintro e w1 ⟨rfl, rfl⟩
  go_wp2
  go_ret
  exact ⟨rfl, rfl⟩
theorem half_no (v : Value) (w : World) (h : No w v) : Calls Try.prog 11 #[v] w fun e w' => e = .returned (.int .i64 0) ∧ w' = w := by
  have k := Lib.hid (none_no v w h)
  clear h
  go_enter Try.func11, Try.ntmps11
  go_wp2_with fail
  refine k.out.mono ?_
  rintro e w1 ⟨rfl, rfl⟩
  go_wp2
  go_ret
  exact ⟨rfl, rfl⟩
theorem number_no (v : Value) (w : World) (h : No w v) : Calls Try.prog 14 #[v] w fun e w' => e = .returned (.int .i64 0) ∧ w' = w := by
  have k := Lib.hid (none_no v w h)
  clear h
  go_enter Try.func14, Try.ntmps14
  go_wp2_with fail
  refine k.out.mono ?_
  rintro e w1 ⟨rfl, rfl⟩
  go_wp2
  go_ret
  exact ⟨rfl, rfl⟩
theorem colour_no (v : Value) (p : Int) (w : World) (h : No w v) : Calls Try.prog 13 #[v, .int .i64 p] w fun e w' => e = .returned (.int .i64 0) ∧ w' = w := by
  have k := Lib.hid (none_no v w h)
  clear h
  go_enter Try.func13, Try.ntmps13
  go_wp2_with fail
  refine k.out.mono ?_
  rintro e w1 ⟨rfl, rfl⟩
  go_wp2
  go_ret
  exact ⟨rfl, rfl⟩
theorem copy_no (v : Value) (w : World) (h : No w v) : Calls Try.prog 20 #[v] w fun e w' => e = .returned (.pointer none) ∧ w' = w := by
  have k := Lib.hid (none_no v w h)
  clear h
  go_enter Try.func20, Try.ntmps20
  go_wp2_with fail
  refine k.out.mono ?_
  rintro e w1 ⟨rfl, rfl⟩
  go_wp2
  go_ret
  exact ⟨rfl, rfl⟩
theorem see_no (v : Value) (p o x y z : Int) (w : World) (h : No w v) : Calls Try.prog 16 #[v, .int .i64 p, .agg #[.int .i64 x, .int .i64 y, .int .i64 z], .int .i64 o] w fun e w' => e = .returned (.int .i64 1) ∧ Below w.heap.size w w' := by
  have i0 : Nw w (w.alloc (.cells #[.int .i64 x, .int .i64 y, .int .i64 z] 27)) := (Nw.refl w).alloc _
  have k := Lib.hid (none_no v _ (h.new i0))
  clear h
  go_enter Try.func16, Try.ntmps16
  go_wp2_with fail
  refine k.out.mono ?_
  rintro e w1 ⟨rfl, rfl⟩
  go_wp2
  go_ret
  exact ⟨rfl, i0⟩
theorem lower_no (v : Value) (x y z : Int) (w : World) (h : No w v) : Calls Try.prog 19 #[v, .agg #[.int .i64 x, .int .i64 y, .int .i64 z]] w fun e w' => e = .returned (.tuple #[]) ∧ Below w.heap.size w w' := by
  have i0 : Nw w (w.alloc (.cells #[.int .i64 x, .int .i64 y, .int .i64 z] 27)) := (Nw.refl w).alloc _
  have k := Lib.hid (none_no v _ (h.new i0))
  clear h
  go_enter Try.func19, Try.ntmps19
  go_wp2_with fail
  refine k.out.mono ?_
  rintro e w1 ⟨rfl, rfl⟩
  go_wp2
  go_end0
  exact ⟨rfl, i0⟩
theorem sent_nil (p x y z : Int) (w : World) : Calls Try.prog 15 #[.pointer none, .int .i64 p, .agg #[.int .i64 x, .int .i64 y, .int .i64 z]] w fun e w' => e = .returned (.tuple #[]) ∧ Below w.heap.size w w' := by
  have i0 : Nw w (w.alloc (.cells #[.int .i64 x, .int .i64 y, .int .i64 z] 27)) := (Nw.refl w).alloc _
  have I0 := Lib.hid i0
  clear i0
  go_enter Try.func15, Try.ntmps15
  go_wp2_with fail
  go_quiet ((go_at_call 22; exact Calls.quiet_of_same (none_nil _)))
  go_wp2_with fail
  go_end0
  exact ⟨rfl, Below.many I0.out _⟩
theorem same_both (v u : Value) (w : World) (h : No w v) (g : No w u) : Calls Try.prog 21 #[v, u] w fun e w' => e = .returned (.bool true) ∧ w' = w := by
  have k := Lib.hid (none_no v w h)
  have k' := Lib.hid (none_no u w g)
  clear h g
  go_enter Try.func21, Try.ntmps21
  go_wp2_with fail
  refine k.out.mono ?_
  rintro e w1 ⟨rfl, rfl⟩
  go_wp2_with fail
  refine k.out.mono ?_
  rintro e w2 ⟨rfl, rfl⟩
  go_wp2_with fail
  refine k'.out.mono ?_
  rintro e w3 ⟨rfl, rfl⟩
  go_wp2
  go_ret
  exact ⟨rfl, rfl⟩
theorem same_left (v : Value) (R C S L : Nat) (r : Rn) (w : World) (h : No w v) (g : RM w R C S L r) : Calls Try.prog 21 #[v, .pointer (some ⟨R, 0, none⟩)] w fun e w' => e = .returned (.bool false) ∧ w' = w := by
  have k := Lib.hid (none_no v w h)
  have k' := Lib.hid (none_any R C S L r w g)
  clear h g
  go_enter Try.func21, Try.ntmps21
  go_wp2_with fail
  refine k.out.mono ?_
  rintro e w1 ⟨rfl, rfl⟩
  go_wp2_with fail
  refine k.out.mono ?_
  rintro e w2 ⟨rfl, rfl⟩
  go_wp2_with fail
  refine k'.out.mono ?_
  rintro e w3 ⟨rfl, rfl⟩
  go_wp2
  go_ret
  exact ⟨rfl, rfl⟩
theorem same_right (v : Value) (R C S L : Nat) (r : Rn) (w : World) (h : No w v) (g : RM w R C S L r) : Calls Try.prog 21 #[.pointer (some ⟨R, 0, none⟩), v] w fun e w' => e = .returned (.bool false) ∧ w' = w := by
  have k := Lib.hid (none_no v w h)
  have k' := Lib.hid (none_any R C S L r w g)
  clear h g
  go_enter Try.func21, Try.ntmps21
  go_wp2_with fail
  refine k'.out.mono ?_
  rintro e w1 ⟨rfl, rfl⟩
  go_wp2_with fail
  refine k.out.mono ?_
  rintro e w2 ⟨rfl, rfl⟩
  go_wp2_with fail
  refine k'.out.mono ?_
  rintro e w3 ⟨rfl, rfl⟩
  go_wp2
  go_ret
  exact ⟨rfl, rfl⟩
end Go.Proofs.Ytbgpbbepeemieaa
