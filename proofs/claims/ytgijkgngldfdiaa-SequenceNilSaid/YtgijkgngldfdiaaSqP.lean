/- SequenceNil: the law, a closed sentence, returns true. No condition. -/
import Derived.Shelf.SlMaps.Equal
import Derived.Test.YtgijkgngldfdiaaSqA
import Derived.RangeFuncNested
import Derived.RangeFuncBound
import Derived.RangeFuncCalls
import Derived.RangeFuncLeaves
import Derived.RangeFuncFrom
import Derived.Shelf.Abstract
import Derived.Shelf.RegionOpen
import Derived.OwnWalkIn
import Derived.TacticsInMore
import Derived.LoopIn
import Derived.Test.YtgijkgngldfdiaaSqF
import Derived.Test.YtgijkgngldfdiaaRows
import Derived.Test.YtgijkgngldfdiaaOpen
namespace Go.Proofs.Ytgijkgngldfdiaa
open Go.RowKit Go.Maps Go.Shelf
set_option maxRecDepth 100000
set_option linter.unusedVariables false
set_option linter.unusedSimpArgs false
def eqM_ren : Go.Shelf.Ren := ⟨fun | 6 => 47 | n => n, fun | 23 => 61 | 24 => 61 | 26 => 2 | 27 => 4 | 4 => 4 | 3 => 3 | 0 => 0 | 36 => 136 | n => n, fun | n => n⟩
theorem eqM : Go.Proofs.SlLaysEq.n6 Try.prog eqM_ren := {
  mixed := by kernel_rfl
  f6 := ⟨Try.f47.name, by decide, Try.func47.trans (congrArg some (by kernel_rfl))⟩
  t0 := Try.underlying0
  a0 := Try.isAgg0
  z0 := Try.sizeOf0
  v0 := Try.zeroValue0
  t3 := Try.underlying3
  a3 := Try.isAgg3
  z3 := Try.sizeOf3
  v3 := Try.zeroValue3
  t4 := Try.underlying4
  a4 := Try.isAgg4
  z4 := Try.sizeOf4
  v4 := Try.zeroValue4
  t23 := Try.underlying61
  a23 := Try.isAgg61
  z23 := Try.sizeOf61
  v23 := Try.zeroValue61
  t24 := Try.underlying61
  a24 := Try.isAgg61
  z24 := Try.sizeOf61
  v24 := Try.zeroValue61
  a26 := Try.isAgg2
  z26 := Try.sizeOf2
  a27 := Try.isAgg4
  z27 := Try.sizeOf4
  t36 := Try.underlying136
  a36 := Try.isAgg136
  z36 := Try.sizeOf136 }
/-- Are two elements one? -/
def oneD : DataW Unit → DataW Unit → Bool
  | .lit (.bool x), .lit (.bool y) => x == y
  | _, _ => false
theorem neq_bool (W : World) (x y : Value) (xd yd : DataW Unit) (xp yp : List MemPlace) (hx : plainElem Try.prog 4 x = some (xd, xp)) (hy : plainElem Try.prog 4 y = some (yd, yp)) :
    (binOp .neq 4 x y).run Try.prog W = .ok (.bool (!oneD xd yd)) W ∧ ∀ (a b : Operand), (eqGuard .neq 4 a b x y).run Try.prog W = .ok () W := by
  obtain ⟨a, rfl, h1⟩ := plainElem_bool_inv Try.underlying4 hx
  obtain ⟨b, rfl, h2⟩ := plainElem_bool_inv Try.underlying4 hy
  obtain rfl : xd = .lit (.bool a) := congrArg Prod.fst h1
  obtain rfl : yd = .lit (.bool b) := congrArg Prod.fst h2
  refine ⟨?_, fun _ _ => by rw [eqGuard_at_bool]; rfl⟩
  simp [go_sem, oneD, binOp]
  cases a <;> cases b <;> rfl
theorem mem_ins {x p : Lit × DataW Unit} : ∀ {l : List (Lit × DataW Unit)}, p ∈ DataW.insert x l → p = x ∨ p ∈ l
  | [], h => by simp [DataW.insert] at h; exact .inl h
  | y :: l, h => by
    unfold DataW.insert at h
    split at h
    · rcases List.mem_cons.1 h with h | h
      · exact .inl h
      · exact .inr h
    · rcases List.mem_cons.1 h with h | h
      · exact .inr (h ▸ List.mem_cons_self)
      · rcases mem_ins h with h | h
        · exact .inl h
        · exact .inr (List.mem_cons_of_mem _ h)
theorem seen_is : ∀ l : List Int, ∃ es, seenD l = .map es ∧ ∀ p ∈ es, ∃ q, q ∈ l ∧ p = (Lit.int .i64 q, .lit (.bool true))
  | [] => ⟨[], rfl, by simp⟩
  | q :: l => by
    obtain ⟨es, he, h⟩ := seen_is l
    refine ⟨_, by unfold seenD; rw [he]; rfl, fun p hp => ?_⟩
    rcases mem_ins hp with rfl | hp
    · exact ⟨q, List.mem_cons_self, rfl⟩
    · obtain ⟨z, hz, e⟩ := h p (List.mem_filter.1 hp).1
      exact ⟨z, List.mem_cons_of_mem _ hz, e⟩
theorem same_seen {l1 l2 : List Int} (h : l1.Perm l2) (hn : l1.Nodup) : Lib.equalFuncD oneD (seenD l1) (seenD l2) = true := by
  unfold Lib.equalFuncD
  rw [size_seen hn, size_seen (h.nodup_iff.1 hn), decide_eq_true h.length_eq, Bool.true_and]
  obtain ⟨es, he, hp⟩ := seen_is l1
  rw [he]
  refine List.all_eq_true.2 fun p hpp => ?_
  obtain ⟨q, hq, rfl⟩ := hp p hpp
  have hq2 : q ∈ l2 := h.subset hq
  have hh : has (seenD l2) (Lit.int .i64 q) = true := by rw [has_seen]; simpa using hq2
  unfold Lib.goodD
  rw [hh, atKey_indep hh .nil (.lit (.bool false)), at_seen]
  simp [oneD, hq2]
theorem mapsEqual_yes (w : World) (b1 b2 : Nat) (l1 l2 : List Int) (h1 : Sn w b1 l1) (h2 : Sn w b2 l2) (h : l1.Perm l2) :
    Calls Try.prog 47 #[.map (some b1), .map (some b2)] w fun e w' => e = .returned (.bool true) ∧ Nw w w' := by
  refine (AnyEq.maps_Equal eqM kInt (plainElem Try.prog 4) (plainElem Try.prog 4) oneD b1 b2 l1.length l2.length (seenD l1) (seenD l2) w h1.1 h2.1 (.bool false) zero_bool (.lit (.bool false)) [] (plainElem_bool Try.underlying4 false) neq_bool).mono ?_
  rintro e w' ⟨rfl, hg⟩
  exact ⟨by rw [same_seen h h1.2.1], (Nw.refl w).grown hg (Nat.le_refl _) (fun k e => by cases e)⟩
end Go.Proofs.Ytgijkgngldfdiaa
/- A sequence that is not there: what each function answers. Helper. -/
namespace Go.Proofs.Ytgijkgngldfdiaa
open Go.RowKit
set_option linter.unusedVariables false
set_option linter.unusedSimpArgs false
/-- Nil, or one of no processes. -/
def NoneAt (w : World) (v : Value) : Prop := v = .pointer none ∨ ∃ ZB cs, v = .pointer (some ⟨ZB, 0, none⟩) ∧ Blk w ZB 63 cs ∧ cs[0]? = some (.slice none 0 0)
theorem NoneAt.new {w w' : World} {v : Value} (h : NoneAt w v) (hN : Nw w w') : NoneAt w' v := by
  rcases h with h | ⟨ZB, cs, h1, h2, h3⟩
  · exact .inl h
  · exact .inr ⟨ZB, cs, h1, h2.below hN h2.lt, h3⟩
section
variable (v : Value) (w : World)
set_option maxRecDepth 100000
set_option maxHeartbeats 1600000
theorem nilNone_any (h : NoneAt w v) : Calls Try.prog 37 #[v] w fun e w' => e = .returned (.bool true) ∧ w' = w := by
  rcases h with rfl | ⟨ZB, cs, rfl, h2, h3⟩
  · go_enter Try.func37, Try.ntmps37
    go_wp2_with fail
    go_ret
    exact ⟨rfl, rfl⟩
  · have c0 : w.cell? ⟨ZB, 0, none⟩ = some (.slice none 0 0) := (h2.cell 0).trans h3
    clear h2 h3
    go_enter Try.func37, Try.ntmps37
    go_wp2_with fail
    go_ret
    exact ⟨rfl, rfl⟩
theorem nilNext_any (h : NoneAt w v) : Calls Try.prog 12 #[v] w fun e w' => e = .returned (.tuple #[ev6 evZ, .bool false]) ∧ Nw w w' := by
  obtain ⟨w1, hw1⟩ : ∃ w1, w.alloc (.cells #[.int .i64 0, .int .i64 0, .int .i64 0, .int .i64 0, .int .i64 0, .int .i64 0] 44) = w1 := ⟨_, rfl⟩
  have n1 : Nw w w1 := by rw [← hw1]; exact (Nw.refl w).alloc _
  have h1 := h.new n1
  have hbO : Blk w1 w.heap.size 44 #[.int .i64 0, .int .i64 0, .int .i64 0, .int .i64 0, .int .i64 0, .int .i64 0] := by rw [← hw1]; exact Blk.last w _ _ rfl
  obtain ⟨OB, hOB⟩ : ∃ OB, w.heap.size = OB := ⟨_, rfl⟩
  rw [hOB] at hbO
  have o0 : w1.cell? ⟨OB, 0, none⟩ = some (.int .i64 0) := hbO.cell 0
  have o1 : w1.cell? ⟨OB, 1, none⟩ = some (.int .i64 0) := hbO.cell 1
  have o2 : w1.cell? ⟨OB, 2, none⟩ = some (.int .i64 0) := hbO.cell 2
  have o3 : w1.cell? ⟨OB, 3, none⟩ = some (.int .i64 0) := hbO.cell 3
  have o4 : w1.cell? ⟨OB, 4, none⟩ = some (.int .i64 0) := hbO.cell 4
  have o5 : w1.cell? ⟨OB, 5, none⟩ = some (.int .i64 0) := hbO.cell 5
  obtain ⟨z0, z1, z2, z3, z4, z5⟩ := frz6 hbO
  have HW := Lib.hid hw1
  have HOB := Lib.hid hOB
  have HK := Lib.hid (nilNone_any v w1 h1)
  have hsets : ∀ a0 a1 a2 a3 a4 a5, Nw w ((((((w1.setCell ⟨OB, 0, none⟩ a0).setCell ⟨OB, 1, none⟩ a1).setCell ⟨OB, 2, none⟩ a2).setCell ⟨OB, 3, none⟩ a3).setCell ⟨OB, 4, none⟩ a4).setCell ⟨OB, 5, none⟩ a5) := fun a0 a1 a2 a3 a4 a5 =>
    have hx : w.heap.size ≤ OB := Nat.le_of_eq hOB
    (((((n1.set (p := ⟨OB, 0, none⟩) hx _).set (p := ⟨OB, 1, none⟩) hx _).set (p := ⟨OB, 2, none⟩) hx _).set (p := ⟨OB, 3, none⟩) hx _).set (p := ⟨OB, 4, none⟩) hx _).set (p := ⟨OB, 5, none⟩) hx _
  have HSETS := Lib.hid hsets
  clear h h1 hw1 n1 hOB hbO hsets
  go_enter Try.func12, Try.ntmps12
  go_upto_region 1 with (fail)
  rw [HW.out, HOB.out]
  go_wp2_with fail
  refine HK.out.mono ?_
  rintro e w2 ⟨rfl, h2⟩
  rw [h2]
  clear h2 w2
  go_wp2_with fail
  refine bodyPost_ret (v := .tuple #[ev6 evZ, .bool false]) (by simp [results, Try.results12, go_sem, o0, o1, o2, o3, o4, o5, ev6, evZ]) rfl ?_
  exact ⟨rfl, HSETS.out _ _ _ _ _ _⟩
theorem nilStep_any (h : NoneAt w v) : Calls Try.prog 17 #[v] w fun r w' => r = .returned (.tuple #[ev6 evZ, .slice none 0 0, .int .i64 1]) ∧ Nw w w' := by
  have HPS := Lib.hid h
  obtain ⟨w1, hw1⟩ : ∃ w1, w.alloc (.cells #[.int .i64 0, .int .i64 0, .int .i64 0, .int .i64 0, .int .i64 0, .int .i64 0] 44) = w1 := ⟨_, rfl⟩
  have n1 : Nw w w1 := by rw [← hw1]; exact (Nw.refl w).alloc _
  obtain ⟨OB, hOB⟩ : ∃ OB, w.heap.size = OB := ⟨_, rfl⟩
  have hbO : Blk w1 OB 44 #[.int .i64 0, .int .i64 0, .int .i64 0, .int .i64 0, .int .i64 0, .int .i64 0] := by rw [← hw1]; exact Blk.last w _ _ hOB
  have HW1 := Lib.hid hw1
  have HOB := Lib.hid hOB
  have HBO := Lib.hid hbO
  have N1 := Lib.hid n1
  have HK1 := Lib.hid (nilNext_any v w1 (h.new n1))
  clear h hw1 n1 hOB hbO
  go_enter Try.func17, Try.ntmps17
  go_upto_region 1 with (fail)
  rw [HW1.out, HOB.out]
  go_wp2_with fail
  refine HK1.out.mono ?_
  rintro r w2 ⟨rfl, b2⟩
  obtain ⟨EB, hEB⟩ : ∃ EB, w2.heap.size = EB := ⟨_, rfl⟩
  obtain ⟨w3, hw3⟩ : ∃ w3, w2.alloc (.cells #[.int .i64 0, .int .i64 0, .int .i64 0, .int .i64 0, .int .i64 0, .int .i64 0] 44) = w3 := ⟨_, rfl⟩
  have n13 : Nw w1 w3 := by rw [← hw3]; exact b2.alloc _
  have hbO3 := HBO.out.below n13 HBO.out.lt
  have HW3 := Lib.hid hw3
  have HEB := Lib.hid hEB
  unfold ev6 evZ
  have n03 : Nw w w3 := N1.out.step n13
  have N03 := Lib.hid n03
  have HK2 := Lib.hid (nilNone_any v w3 (HPS.out.new n03))
  have z0 : w3.cell? ⟨OB, 0, none⟩ = some (.int .i64 0) := hbO3.cell 0
  have z1 : w3.cell? ⟨OB, 1, none⟩ = some (.int .i64 0) := hbO3.cell 1
  have z2 : w3.cell? ⟨OB, 2, none⟩ = some (.int .i64 0) := hbO3.cell 2
  have z3 : w3.cell? ⟨OB, 3, none⟩ = some (.int .i64 0) := hbO3.cell 3
  have z4 : w3.cell? ⟨OB, 4, none⟩ = some (.int .i64 0) := hbO3.cell 4
  have z5 : w3.cell? ⟨OB, 5, none⟩ = some (.int .i64 0) := hbO3.cell 5
  obtain ⟨f0, f1, f2, f3, f4, f5⟩ := frz6 hbO3
  clear b2 hw3 hEB n13 HK1 n03 hbO3
  dsimp only
  go_upto_region 2 with (fail)
  rw [HW3.out, HEB.out]
  go_wp2_with fail
  refine HK2.out.mono ?_
  rintro r wq ⟨rfl, hq⟩
  rw [hq]
  clear hq wq HK2
  go_wp2_with fail
  refine bodyPost_ret (v := .tuple #[ev6 evZ, .slice none 0 0, .int .i64 1]) (by simp [results, Try.results17, go_sem, z0, z1, z2, z3, z4, z5, ev6, evZ]) rfl ?_
  have hx : w.heap.size ≤ OB := Nat.le_of_eq HOB.out
  exact ⟨rfl, (((((N03.out.set (p := ⟨OB, 0, none⟩) hx _).set (p := ⟨OB, 1, none⟩) hx _).set (p := ⟨OB, 2, none⟩) hx _).set (p := ⟨OB, 3, none⟩) hx _).set (p := ⟨OB, 4, none⟩) hx _).set (p := ⟨OB, 5, none⟩) hx _⟩
theorem nilState_any (x : Int) (h : NoneAt w v) : Calls Try.prog 20 #[v, .int .i64 x] w fun r w' => r = .returned (.tuple #[.agg #[.slice none 0 0, .int .i64 0, .int .i64 0], .int .i64 1]) ∧ Nw w w' := by
  obtain ⟨w2, hw2⟩ : ∃ w2, w.alloc (.cells #[.slice none 0 0, .int .i64 0, .int .i64 0] 65) = w2 := ⟨_, rfl⟩
  have n2 : Nw w w2 := by rw [← hw2]; exact (Nw.refl w).alloc _
  have hz : Blk w2 w.heap.size 65 #[.slice none 0 0, .int .i64 0, .int .i64 0] := by rw [← hw2]; exact Blk.last w _ _ rfl
  obtain ⟨OB, hOB⟩ : ∃ OB, w.heap.size = OB := ⟨_, rfl⟩
  rw [hOB] at hz
  have HK := Lib.hid (nilNone_any v w2 (h.new n2))
  have z0 : w2.cell? ⟨OB, 0, none⟩ = some (.slice none 0 0) := hz.cell 0
  have z1 : w2.cell? ⟨OB, 1, none⟩ = some (.int .i64 0) := hz.cell 1
  have z2 : w2.cell? ⟨OB, 2, none⟩ = some (.int .i64 0) := hz.cell 2
  have f0 := hz.frozen 0
  have f1 := hz.frozen 1
  have f2 := hz.frozen 2
  have HW2 := Lib.hid hw2
  have HOB := Lib.hid hOB
  have N2 := Lib.hid n2
  clear h hw2 n2 hz hOB
  go_enter Try.func20, Try.ntmps20
  go_upto_region 1 with (fail)
  rw [HW2.out, HOB.out]
  go_wp2_with fail
  refine HK.out.mono ?_
  rintro r wq ⟨rfl, hq⟩
  rw [hq]
  clear hq wq
  go_wp2_with fail
  refine bodyPost_ret (v := .tuple #[.agg #[.slice none 0 0, .int .i64 0, .int .i64 0], .int .i64 1]) (by simp [results, Try.results20, go_sem, z0, z1, z2]) rfl ?_
  have hx : w.heap.size ≤ OB := Nat.le_of_eq HOB.out
  exact ⟨rfl, ((N2.out.set (p := ⟨OB, 0, none⟩) hx _).set (p := ⟨OB, 1, none⟩) hx _).set (p := ⟨OB, 2, none⟩) hx _⟩
theorem nilPut_any (a b c d e f : Int) (h : NoneAt w v) : Calls Try.prog 15 #[v, .agg #[.int .i64 a, .int .i64 b, .int .i64 c, .int .i64 d, .int .i64 e, .int .i64 f]] w fun r w' => r = .returned (.int .i64 1) ∧ Nw w w' := by
  obtain ⟨w1, hw1⟩ : ∃ w1, w.alloc (.cells #[.int .i64 a, .int .i64 b, .int .i64 c, .int .i64 d, .int .i64 e, .int .i64 f] 44) = w1 := ⟨_, rfl⟩
  have n1 : Nw w w1 := by rw [← hw1]; exact (Nw.refl w).alloc _
  obtain ⟨EB, hEB⟩ : ∃ EB, w.heap.size = EB := ⟨_, rfl⟩
  have HK := Lib.hid (nilNone_any v w1 (h.new n1))
  have HW1 := Lib.hid hw1
  have HEB := Lib.hid hEB
  have N1 := Lib.hid n1
  clear h hw1 n1 hEB
  go_enter Try.func15, Try.ntmps15
  go_upto_region 1 with (fail)
  rw [HW1.out, HEB.out]
  go_wp2_with fail
  refine HK.out.mono ?_
  rintro r wq ⟨rfl, hq⟩
  rw [hq]
  clear hq wq
  go_wp2_with fail
  go_ret
  exact ⟨rfl, N1.out⟩
theorem nilFloor_any (h : NoneAt w v) : Calls Try.prog 22 #[v] w fun r w' => r = .returned (.int .i64 (-1)) ∧ w' = w := by
  have HK := Lib.hid (nilNone_any v w h)
  clear h
  go_enter Try.func22, Try.ntmps22
  go_wp2_with fail
  refine HK.out.mono ?_
  rintro r wq ⟨rfl, hq⟩
  rw [hq]
  clear hq wq
  go_wp2_with fail
  go_ret
  exact ⟨rfl, rfl⟩
theorem nilDone_any (h : NoneAt w v) : Calls Try.prog 23 #[v] w fun r w' => r = .returned (.int .i64 0) ∧ w' = w := by
  have HK := Lib.hid (nilNone_any v w h)
  clear h
  go_enter Try.func23, Try.ntmps23
  go_wp2_with fail
  refine HK.out.mono ?_
  rintro r wq ⟨rfl, hq⟩
  rw [hq]
  clear hq wq
  go_wp2_with fail
  go_ret
  exact ⟨rfl, rfl⟩
theorem nilWaits_any (h : NoneAt w v) : Calls Try.prog 24 #[v] w fun r w' => r = .returned (.int .i64 0) ∧ w' = w := by
  have HK := Lib.hid (nilNone_any v w h)
  clear h
  go_enter Try.func24, Try.ntmps24
  go_wp2_with fail
  refine HK.out.mono ?_
  rintro r wq ⟨rfl, hq⟩
  rw [hq]
  clear hq wq
  go_wp2_with fail
  go_ret
  exact ⟨rfl, rfl⟩
theorem nilCopy_any (h : NoneAt w v) : Calls Try.prog 25 #[v] w fun r w' => r = .returned (.pointer none) ∧ w' = w := by
  have HK := Lib.hid (nilNone_any v w h)
  clear h
  go_enter Try.func25, Try.ntmps25
  go_wp2_with fail
  refine HK.out.mono ?_
  rintro r wq ⟨rfl, hq⟩
  rw [hq]
  clear hq wq
  go_wp2_with fail
  go_ret
  exact ⟨rfl, rfl⟩
theorem nilSame_any (u : Value) (h : NoneAt w v) (k : NoneAt w u) : Calls Try.prog 19 #[v, u] w fun r w' => r = .returned (.bool true) ∧ w' = w := by
  have HK := Lib.hid (nilNone_any v w h)
  have HK2 := Lib.hid (nilNone_any u w k)
  clear h k
  go_enter Try.func19, Try.ntmps19
  go_wp2_with fail
  refine HK.out.mono ?_
  rintro r wq ⟨rfl, hq⟩
  rw [hq]
  clear hq wq
  go_wp2_with fail
  refine HK.out.mono ?_
  rintro r wq ⟨rfl, hq⟩
  rw [hq]
  clear hq wq
  go_wp2_with fail
  refine HK2.out.mono ?_
  rintro r wq ⟨rfl, hq⟩
  rw [hq]
  clear hq wq
  go_wp2_with fail
  go_ret
  exact ⟨rfl, rfl⟩
/-- All of any: a function that holds it. -/
theorem all_any (a : Option Addr) : Calls Try.prog 21 #[.pointer a] w fun r w' => ∃ B, r = .returned (.func (.func 49) #[] #[.pointer (some ⟨B, 0, none⟩)]) ∧ w'.cell? ⟨B, 0, none⟩ = some (.pointer a) ∧ Nw w w' := by
  obtain ⟨w1, hw1⟩ : ∃ w1, w.alloc (.cells #[.pointer a] 29) = w1 := ⟨_, rfl⟩
  have n1 : Nw w w1 := by rw [← hw1]; exact (Nw.refl w).alloc _
  obtain ⟨XB, hXB⟩ : ∃ XB, w.heap.size = XB := ⟨_, rfl⟩
  have hb : Blk w1 XB 29 #[.pointer a] := by rw [← hw1]; exact Blk.last w _ _ hXB
  have HW := Lib.hid hw1
  have HX := Lib.hid hXB
  have HB := Lib.hid hb
  have N1 := Lib.hid n1
  clear hw1 hXB hb n1
  go_enter Try.func21, Try.ntmps21
  go_upto_region 1 with (fail)
  rw [HW.out, HX.out]
  go_wp2_with fail
  go_ret
  exact ⟨XB, rfl, HB.out.cell 0, N1.out⟩
/-- All of none: nothing comes. -/
theorem nilAll_any (l B : Nat) (h : NoneAt w v) (hc : w.cell? ⟨B, 0, none⟩ = some v) : Calls Try.prog 49 #[.func (.yield l) #[] #[], .pointer (some ⟨B, 0, none⟩)] w fun e w' => (∃ u, e = .returned u) ∧ Nw w w' := by
  have HK := Lib.hid (nilCopy_any v w h)
  have HK2 := Lib.hid (fun W => nilStep_any (.pointer none) W (.inl rfl))
  clear h
  go_enter Try.func49, Try.ntmps49
  go_wp2_with fail
  refine HK.out.mono ?_
  rintro r wq ⟨rfl, hq⟩
  rw [hq]
  clear hq wq
  go_wp2_with fail
  go_loopw [6] (fun i wr => Hid (Nw w wr)) (fun _ _ => 0)
  case atStart => exact Lib.hid (Nw.refl w)
  case round =>
    have HN := hrel
    go_wp2_with fail
    refine (HK2.out _).mono ?_
    rintro r w2 ⟨rfl, n2⟩
    have N2 := Lib.hid (HN.out.step n2)
    clear n2
    unfold ev6 evZ
    dsimp only
    obtain ⟨w3, hw3⟩ : ∃ w3, w2.alloc (.cells #[.int .i64 0, .int .i64 0, .int .i64 0, .int .i64 0, .int .i64 0, .int .i64 0] 44) = w3 := ⟨_, rfl⟩
    have N3 := Lib.hid (show Nw w w3 by rw [← hw3]; exact N2.out.alloc _)
    have HW3 := Lib.hid hw3
    clear hw3
    go_upto_region 2 with (fail)
    rw [HW3.out]
    go_wp2_with fail
    refine bodyPost_ret (results_none rfl _ _ _) rfl ?_
    exact ⟨⟨_, rfl⟩, N3.out⟩
end
end Go.Proofs.Ytgijkgngldfdiaa
/- The law of a sequence that is not there: its walk. Helper. -/
namespace Go.Proofs.Ytgijkgngldfdiaa
open Go.RowKit Go.Shelf
set_option linter.unusedVariables false
set_option linter.unusedSimpArgs false
/-- Of none nothing comes. -/
theorem nilAll_stops (n : Nat) (v : Value) (w : World) (B : Nat) (h : NoneAt w v) (hc : w.cell? ⟨B, 0, none⟩ = some v) :
    SeqStopsK Fence.wide n Try.prog 49 #[.pointer (some ⟨B, 0, none⟩)] (fun x : Empty => x.elim) (fun _ _ => True) (fun xs => xs = []) (fun _ => False) 0 w :=
  fun l J Jx W hW hJ hJx hY h0 => callsIn_wide.2 ((nilAll_any v W l B (h.new hW) ((Nw.cell hW hc))).mono fun e W' ⟨hu, hN⟩ => ⟨hu, .inl ⟨[], rfl, hJ [] W W' none h0 ⟨hN.os, hN.tape, hN.output, hN.size, fun k hk _ => hN.block k hk⟩ (fun r e => by cases e)⟩⟩)
set_option maxRecDepth 100000 in
theorem func_nil (f B : Nat) (W : World) : Sem.run Try.prog (binOp .eql 69 (.func (.func f) #[] #[.pointer (some ⟨B, 0, none⟩)]) .nilFunc) W = .ok (.bool false) W := rfl
section
variable (w : World)
set_option maxRecDepth 100000
set_option maxHeartbeats 6400000
theorem nil_any : Calls Try.prog 5 #[] w fun e w' => e = .returned (.bool true) ∧ Nw w w' := by
  obtain ⟨w1, hw1⟩ : ∃ w1, (w.alloc (.cells #[.bool false] 4)).alloc (.cells #[.slice none 0 0, .slice none 0 0, .slice none 0 0, .map none, .int .i64 0, .int .i64 0] 63) = w1 := ⟨_, rfl⟩
  have n1 : Nw w w1 := by rw [← hw1]; exact ((Nw.refl w).alloc _).alloc _
  obtain ⟨RB, hRB⟩ : ∃ RB, w.heap.size = RB := ⟨_, rfl⟩
  have hbR : Blk w1 RB 4 #[.bool false] := by rw [← hw1]; exact (Blk.last w _ _ hRB).alloc _
  have hbZ : Blk w1 (RB + 1) 63 #[.slice none 0 0, .slice none 0 0, .slice none 0 0, .map none, .int .i64 0, .int .i64 0] := by rw [← hw1]; exact Blk.last _ _ _ (by simp [hRB])
  refine (callsIn_wide (n := 4)).1 ?_
  refine callsIn_of_wp_marks Try.func5 rfl trivial ?_ rfl
  simp only [Try.ntmps5, List.size_toArray, List.length_nil, List.length_cons, Nat.reduceAdd, Nat.reduceSub, Array.replicate_succ, Array.replicate_zero, List.push_toArray, List.append_toArray, List.nil_append, List.cons_append]
  have hz : NoneAt w1 (.pointer (some ⟨RB + 1, 0, none⟩)) := .inr ⟨RB + 1, _, rfl, hbZ, rfl⟩
  have hnil : ∀ W : World, NoneAt W (.pointer none) := fun W => .inl rfl
  have KSt := Lib.hid (fun W => nilStep_any _ W (hnil W))
  have KSz := Lib.hid (fun W (hW : Nw w1 W) => nilStep_any _ W (hz.new hW))
  have KSa := Lib.hid (fun W => nilState_any _ W 1 (hnil W))
  have KNx := Lib.hid (fun W => nilNext_any _ W (hnil W))
  have KAl := Lib.hid (fun W => all_any W none)
  have KPu := Lib.hid (fun W => nilPut_any _ W 0 0 0 0 0 0 (hnil W))
  have KFl := Lib.hid (fun W => nilFloor_any _ W (hnil W))
  have KDo := Lib.hid (fun W => nilDone_any _ W (hnil W))
  have KWa := Lib.hid (fun W => nilWaits_any _ W (hnil W))
  have KCo := Lib.hid (fun W => nilCopy_any _ W (hnil W))
  have KS1 := Lib.hid (fun W (hW : Nw w1 W) => nilSame_any _ W _ (hnil W) (hz.new hW))
  have KS2 := Lib.hid (fun W (hW : Nw w1 W) => nilSame_any _ W _ (hz.new hW) (hnil W))
  have KKn := Lib.hid (fun W => known_any W)
  have HBR := Lib.hid hbR
  have HRB := Lib.hid hRB
  have N1 := Lib.hid n1
  clear hz hnil hbR hbZ n1
  gi_wp2_with fail
  clear hw1 hRB
  refine ⟨trivial, (callsIn_wide.2 (KSt.out _)).mono ?_⟩
  rintro x w2 ⟨rfl, b2⟩
  have N2 : Hid (Nw w1 w2) := Lib.hid b2
  clear b2
  unfold ev6 evZ
  dsimp only
  gi_wp2_with fail
  refine ⟨trivial, (callsIn_wide.2 (KSz.out _ (N2.out.alloc _))).mono ?_⟩
  rintro x w3 ⟨rfl, b3⟩
  have N3 : Hid (Nw w1 w3) := Lib.hid ((N2.out.alloc _).step b3)
  clear b3
  unfold ev6 evZ
  dsimp only
  gi_wp2_with fail
  refine ⟨trivial, (callsIn_wide.2 (KSa.out _)).mono ?_⟩
  rintro x w4 ⟨rfl, b4⟩
  have N4 : Hid (Nw w1 w4) := Lib.hid ((N3.out.alloc _).step b4)
  clear b4
  gi_wp2_with fail
  refine ⟨trivial, (callsIn_wide.2 (KNx.out _)).mono ?_⟩
  rintro x w5 ⟨rfl, b5⟩
  have N5 : Hid (Nw w1 w5) := Lib.hid ((N4.out.alloc _).step b5)
  clear b5
  unfold ev6 evZ
  dsimp only
  gi_wp2_with fail
  refine ⟨trivial, (callsIn_wide.2 (KAl.out _)).mono ?_⟩
  rintro x w6 ⟨B6, rfl, _, b6⟩
  have N6 : Hid (Nw w1 w6) := Lib.hid ((N5.out.alloc _).step b6)
  clear b6
  gi_wp2_with fail
  rw [func_nil]
  gi_wp2_with fail
  refine ⟨trivial, (callsIn_wide.2 (KAl.out _)).mono ?_⟩
  rintro x w7 ⟨B7, rfl, hB7, b7⟩
  have N7 : Hid (Nw w1 w7) := Lib.hid (N6.out.step b7)
  clear b7
  gi_wp2_with fail
  refine wpIn_rangeFunc_ownF (gf := 49) (lb := #[.pointer (some ⟨B7, 0, none⟩)]) rfl (by omega) rfl trivial (enters_of Try.func49 (by kernel_rfl) rfl)
    (nilAll_stops _ (.pointer none) w7 B7 (.inl rfl) hB7) (fun _ _ => trivial) (fun _ _ _ _ _ _ _ _ => trivial) (Below.refl _ _) (fun x => x.elim) (fun _ W => Below w1.heap.size w1 W) (fun _ _ _ => False)
    (ownFrom_below (Nat.le_refl _) N7.out.size) (fun _ _ _ _ _ h => h.elim) N7.out (fun x => x.elim) ?assign ?body ?done ?stop
  case assign => exact fun _ x => x.elim
  case body => exact fun _ _ x => x.elim
  case stop => exact fun _ _ _ _ _ h => h.elim
  case done =>
    rintro D xs W hD _ b8 hK
    have N8 : Hid (Nw w1 W) := Lib.hid b8
    have HKD := Lib.hid hK
    have HD := Lib.hid hD
    clear b8 hK hD hB7
    gi_wp2_with fail
    refine ⟨trivial, (callsIn_wide.2 (KPu.out _)).mono ?_⟩
    rintro x w9 ⟨rfl, b9⟩
    have N9 : Hid (Nw w1 w9) := Lib.hid (N8.out.step b9)
    have HKD9 : Hid (w9.heap[D]? = some (.deferred (some []))) := Lib.hid ((b9.block D (Array.getElem?_eq_some_iff.1 HKD.out).1).trans HKD.out)
    clear b9 HKD
    gi_wp2_with fail
    refine ⟨trivial, (callsIn_wide.2 (KFl.out _)).mono ?_⟩
    rintro x wq ⟨rfl, hq⟩
    rw [hq]
    clear hq wq
    gi_wp2_with fail
    refine ⟨trivial, (callsIn_wide.2 (KDo.out _)).mono ?_⟩
    rintro x wq ⟨rfl, hq⟩
    rw [hq]
    clear hq wq
    gi_wp2_with fail
    refine ⟨trivial, (callsIn_wide.2 (KWa.out _)).mono ?_⟩
    rintro x wq ⟨rfl, hq⟩
    rw [hq]
    clear hq wq
    gi_wp2_with fail
    refine ⟨trivial, (callsIn_wide.2 (KCo.out _)).mono ?_⟩
    rintro x wq ⟨rfl, hq⟩
    rw [hq]
    clear hq wq
    gi_wp2_with fail
    refine ⟨trivial, (callsIn_wide.2 (KS1.out _ N9.out)).mono ?_⟩
    rintro x wq ⟨rfl, hq⟩
    rw [hq]
    clear hq wq
    gi_wp2_with fail
    refine ⟨trivial, (callsIn_wide.2 (KS2.out _ N9.out)).mono ?_⟩
    rintro x wq ⟨rfl, hq⟩
    rw [hq]
    clear hq wq
    gi_wp2_with fail
    refine ⟨trivial, (callsIn_wide.2 (KKn.out _)).mono ?_⟩
    rintro x w10 ⟨rfl, b10⟩
    have N10 : Hid (Nw w1 w10) := Lib.hid (N9.out.step b10)
    have HKD10 : Hid (w10.heap[D]? = some (.deferred (some []))) := Lib.hid ((b10.block D (Array.getElem?_eq_some_iff.1 HKD9.out).1).trans HKD9.out)
    clear b10 HKD9
    have hbR := HBR.out.below N10.out HBR.out.lt
    have r0 : w10.cell? ⟨RB, 0, none⟩ = some (.bool false) := hbR.cell 0
    have z0 := hbR.frozen 0
    clear hbR
    gi_wp2_with fail
    have n0 : Nw w w10 := N1.out.step N10.out
    have hD7 : w.heap.size ≤ D := Nat.le_trans (Nat.le_trans N1.out.size N7.out.size) HD.out
    have hDR : D ≠ RB := fun e => by have := HBR.out.lt; have := N7.out.size; have := HD.out; omega
    have hK' : (w10.setCell ⟨RB, 0, none⟩ (.bool true)).heap[D]? = some (.deferred (some [])) := (Below.heap_setCell _ _ _ _ hDR).trans HKD10.out
    have hc5 : ((w10.setCell ⟨RB, 0, none⟩ (.bool true)).putObj D (.deferred none)).cell? ⟨RB, 0, none⟩ = some (.bool true) :=
      cell_kept (World.cell?_setCell_same' w10 ⟨RB, 0, none⟩ (.bool true) (by rw [r0]; rfl)) (grownBy_putObj' _ D (.deferred none)) (fun r e => by cases e; exact ⟨_, hK', rfl⟩)
    refine ⟨by simp, .inl ⟨_, _, rfl, run_takeDeferred hK', ?_⟩⟩
    refine ⟨.bool true, ?_, rfl, ?_⟩
    · simp [results, Try.f5, go_sem, hc5]
    · exact (n0.set (p := ⟨RB, 0, none⟩) (Nat.le_of_eq HRB.out) _).trans (belowK_b (w := w) (Nat.le_refl _) _ D _ _ hD7 hK' rfl rfl)
end
end Go.Proofs.Ytgijkgngldfdiaa
/- SequenceNil: the law, a closed sentence, returns true. No condition. -/
namespace Go.Proofs.Ytgijkgngldfdiaa.sequenceNil
open Go.ChangeShapes Go.WideShapes Go.ChangeAt Go.RowKit
set_option linter.unusedVariables false
set_option linter.unusedSimpArgs false
theorem own : ownKnob Try.prog.godebug = none := by kernel_rfl
theorem laidOut : laidOutB Try.prog = true := by kernel_rfl
theorem walk (w : World) : Calls Try.prog 5 #[] w fun e w' => e = .returned (.bool true) ∧ Below w.heap.size w w' := nil_any w
set_option maxRecDepth 100000 in
theorem lifted (os : Os) (started : os.Started) (H : Type) (enc : TypeId × Value → H) :
    ReturnsInHanded {} Try.checked os 5 .any (Rows.sequenceNilSpec.pre6 enc Try.prog Try.f5 Rows.sequenceNilRow.domain false) (Rows.sequenceNilSpec.post enc Try.prog Try.f5 false true false false) := by
  refine returnsInHanded_of_change (C := Try.checked) own started (by kernel_rfl) Try.func5
    (ChangeSpec.witness6 (enc := enc) (C := Try.checked) false ⟨#[], #[], []⟩ 8 (by kernel_rfl) (by kernel_rfl) (by kernel_rfl) (by kernel_rfl)) ?_
  intro W base args ds gs before hval0 hW hcnd _
  have hval : ∀ (j : Nat) t v, Try.f5.params[j]? = some t → args[j]? = some v → Value.okWide Try.prog W .any base t v := hval0
  have hW' := hW
  obtain ⟨p, q, hA0, hV, rfl, hfz, hnd⟩ := hW
  have hA : DataW.TrodAll enc Try.prog W 0 (fun _ => true) true Try.f5.params.toList args.toList ds p := hA0
  rw [Try.params5] at hA hval
  obtain ⟨hargs, rfl, rfl⟩ := trodAll_nil hA
  obtain rfl : args = #[] := by cases args; simp_all
  obtain ⟨rfl, rfl⟩ := trodVars_none hV
  clear hA0 hval0
  refine (walk  W ).mono fun e W' ⟨he, bel⟩ => ?_
  subst he
  exact ⟨_, rfl, _, _, _, [], _, [], hW', trodAll_mk1 (shut_bool Try.underlying4 _), trodAll_mk0, rfl, bel.frame _, fun h => by cases h⟩
theorem over : Rows.sequenceNilRow.holds Try.pinned (OpenSpec.ofChange Rows.sequenceNilSpec) :=
  OpenClaim.holds_of_wide 5 Try.f5 rfl rfl rfl rfl rfl rfl rfl ⟨rfl, rfl, rfl, rfl, rfl⟩ rfl rfl rfl rfl rfl (by kernel_rfl) Try.func5 (by kernel_rfl)
    (of_decide_eq_true (by kernel_rfl)) (by unfold Func.isWrapper; first | (rw [if_pos (by decide +kernel)]; kernel_rfl) | (rw [if_neg (by decide +kernel)]; exact ⟨rfl, rfl⟩))
    (fun os started H enc _ => lifted os started H enc)
/-- ████ THE STATEMENT ████ -/
theorem proved : Rows.SequenceNilSaid := over
#print axioms proved
end Go.Proofs.Ytgijkgngldfdiaa.sequenceNil
