/- Messages: the tables of parts. Helper. -/
import Derived.Test.YtnbcjjgilndlaaaRdPen
namespace Go.Proofs.Ytnbcjjgilndlaaa
open Go.RowKit
set_option linter.unusedVariables false
set_option linter.unusedSimpArgs false
set_option maxRecDepth 100000
theorem belowPut {B : Nat} {a b : World} (h : Below B a b) {r : Nat} (hr : B ≤ r) (o : Obj) : Below B a (b.putObj r o) := by
  refine ⟨h.os, h.tape, h.output, by simpa [World.putObj] using h.size, fun k hk => ?_⟩
  exact (World.putObj_heap_other (by omega)).trans (h.block k hk)
theorem keepPut {T : TypeId} {cs : Array Value} (k : Nat) (W : World) (S : Nat) (o : Obj) (W' : World) (h : W.putObj S o = W') (hne : k ≠ S) (hb : Blk W k T cs) : Blk W' k T cs := by
  rw [← h]; exact (World.putObj_heap_other hne).trans hb
/-- What tells hands back. -/
def tellsES (S : Nat) : List MapEntry := [{ key := .int .i64 1, val := .slice (some ⟨S + 1, 0, none⟩) 3 3, born := 0 }, { key := .int .i64 2, val := .slice (some ⟨S + 2, 0, none⟩) 3 3, born := 1 }, { key := .int .i64 3, val := .slice (some ⟨S + 3, 0, none⟩) 1 1, born := 2 }, { key := .int .i64 4, val := .slice (some ⟨S + 4, 0, none⟩) 2 2, born := 3 }, { key := .int .i64 5, val := .slice (some ⟨S + 5, 0, none⟩) 1 1, born := 4 }]
structure tellsAt (w : World) (S : Nat) : Prop where
  tab : w.heap[S]? = some (.map (tellsES S).toArray 5)
  p1 : Blk w (S + 1) 116 #[.func (.func 65) #[] #[], .func (.func 66) #[] #[], .func (.func 68) #[] #[]]
  p2 : Blk w (S + 2) 116 #[.func (.func 65) #[] #[], .func (.func 68) #[] #[], .func (.func 69) #[] #[]]
  p3 : Blk w (S + 3) 116 #[.func (.func 71) #[] #[]]
  p4 : Blk w (S + 4) 116 #[.func (.func 73) #[] #[], .func (.func 74) #[] #[]]
  p5 : Blk w (S + 5) 116 #[.func (.func 66) #[] #[]]
set_option maxHeartbeats 6400000 in
theorem tells_any (w : World) : Calls Try.prog 31 #[] w fun e w' => e = .returned (.map (some w.heap.size)) ∧ tellsAt w' w.heap.size ∧ Below w.heap.size w w' := by
  have km : ∀ W : World, (Instr.makeMap 80 none).run Try.prog W = .ok (.map (some W.heap.size)) (W.alloc (.map #[] 0)) := fun W => by kernel_rfl
  obtain ⟨S, hS⟩ : ∃ S, w.heap.size = S := ⟨_, rfl⟩
  obtain ⟨w0, hw0⟩ : ∃ w0, w.alloc (.map #[] 0) = w0 := ⟨_, rfl⟩
  have t0 : w0.heap[S]? = some (.map ((tellsES S).take 0).toArray 0) := by rw [← hw0, ← hS]; exact heap_alloc_last w _
  have s0 : w0.heap.size = S + 1 := by rw [← hw0, ← hS]; simp
  have n0 : Below S w w0 := by rw [← hw0, ← hS]; exact (Below.refl _ w).alloc (Nat.le_refl _) _
  rw [hS]
  have HS := Lib.hid hS
  have HW0 := Lib.hid hw0
  clear hS hw0
  go_enter Try.func31, Try.ntmps31
  go_wp2_with fail
  rw [HS.out, HW0.out]
  go_wp2_with fail
  -- 1
  have a1 : (w0.alloc (.cells #[.func (.func 65) #[] #[], .func (.func 66) #[] #[], .func (.func 68) #[] #[]] 116)).heap[S]? = some (.map ((tellsES S).take 0).toArray 0) := (Below.heap_alloc _ _ _ (by rw [s0]; omega)).trans t0
  rw [upd_run Try.underlying80 Try.underlying37 a1 1 _ rfl]
  obtain ⟨w1, hw1⟩ : ∃ W, (w0.alloc (.cells #[.func (.func 65) #[] #[], .func (.func 66) #[] #[], .func (.func 68) #[] #[]] 116)).putObj S (.map (((tellsES S).take 0).toArray.push { key := .int .i64 1, val := .slice (some ⟨S + 1, 0, none⟩) 3 3, born := 0 }) (0 + 1)) = W := ⟨_, rfl⟩
  have t1 : w1.heap[S]? = some (.map ((tellsES S).take 1).toArray 1) := by rw [← hw1, World.putObj_heap_same (by rw [World.size_alloc, s0]; omega)]; rfl
  have s1 : w1.heap.size = S + 2 := by rw [← hw1]; simp [World.putObj, s0]
  have n1 : Below S w w1 := by rw [← hw1]; exact belowPut (n0.alloc (by have := n0.size; omega) _) (Nat.le_refl _) _
  have b1 : Blk w1 (S + 1) 116 #[.func (.func 65) #[] #[], .func (.func 66) #[] #[], .func (.func 68) #[] #[]] := by rw [← hw1]; exact (World.putObj_heap_other (by omega)).trans (Blk.last w0 116 #[.func (.func 65) #[] #[], .func (.func 66) #[] #[], .func (.func 68) #[] #[]] s0)
  rw [hw1]
  clear hw1 a1 t0 s0 n0
  go_wp2_with fail
  -- 2
  have a2 : (w1.alloc (.cells #[.func (.func 65) #[] #[], .func (.func 68) #[] #[], .func (.func 69) #[] #[]] 116)).heap[S]? = some (.map ((tellsES S).take 1).toArray 1) := (Below.heap_alloc _ _ _ (by rw [s1]; omega)).trans t1
  rw [upd_run Try.underlying80 Try.underlying37 a2 2 _ rfl]
  obtain ⟨w2, hw2⟩ : ∃ W, (w1.alloc (.cells #[.func (.func 65) #[] #[], .func (.func 68) #[] #[], .func (.func 69) #[] #[]] 116)).putObj S (.map (((tellsES S).take 1).toArray.push { key := .int .i64 2, val := .slice (some ⟨S + 2, 0, none⟩) 3 3, born := 1 }) (1 + 1)) = W := ⟨_, rfl⟩
  have t2 : w2.heap[S]? = some (.map ((tellsES S).take 2).toArray 2) := by rw [← hw2, World.putObj_heap_same (by rw [World.size_alloc, s1]; omega)]; rfl
  have s2 : w2.heap.size = S + 3 := by rw [← hw2]; simp [World.putObj, s1]
  have n2 : Below S w w2 := by rw [← hw2]; exact belowPut (n1.alloc (by have := n1.size; omega) _) (Nat.le_refl _) _
  have b2 : Blk w2 (S + 2) 116 #[.func (.func 65) #[] #[], .func (.func 68) #[] #[], .func (.func 69) #[] #[]] := by rw [← hw2]; exact (World.putObj_heap_other (by omega)).trans (Blk.last w1 116 #[.func (.func 65) #[] #[], .func (.func 68) #[] #[], .func (.func 69) #[] #[]] s1)
  replace b1 := keepPut (S + 1) (w1.alloc (.cells #[.func (.func 65) #[] #[], .func (.func 68) #[] #[], .func (.func 69) #[] #[]] 116)) S _ w2 hw2 (by omega) (b1.alloc (.cells #[.func (.func 65) #[] #[], .func (.func 68) #[] #[], .func (.func 69) #[] #[]] 116))
  rw [hw2]
  clear hw2 a2 t1 s1 n1
  go_wp2_with fail
  -- 3
  have a3 : (w2.alloc (.cells #[.func (.func 71) #[] #[]] 116)).heap[S]? = some (.map ((tellsES S).take 2).toArray 2) := (Below.heap_alloc _ _ _ (by rw [s2]; omega)).trans t2
  rw [upd_run Try.underlying80 Try.underlying37 a3 3 _ rfl]
  obtain ⟨w3, hw3⟩ : ∃ W, (w2.alloc (.cells #[.func (.func 71) #[] #[]] 116)).putObj S (.map (((tellsES S).take 2).toArray.push { key := .int .i64 3, val := .slice (some ⟨S + 3, 0, none⟩) 1 1, born := 2 }) (2 + 1)) = W := ⟨_, rfl⟩
  have t3 : w3.heap[S]? = some (.map ((tellsES S).take 3).toArray 3) := by rw [← hw3, World.putObj_heap_same (by rw [World.size_alloc, s2]; omega)]; rfl
  have s3 : w3.heap.size = S + 4 := by rw [← hw3]; simp [World.putObj, s2]
  have n3 : Below S w w3 := by rw [← hw3]; exact belowPut (n2.alloc (by have := n2.size; omega) _) (Nat.le_refl _) _
  have b3 : Blk w3 (S + 3) 116 #[.func (.func 71) #[] #[]] := by rw [← hw3]; exact (World.putObj_heap_other (by omega)).trans (Blk.last w2 116 #[.func (.func 71) #[] #[]] s2)
  replace b1 := keepPut (S + 1) (w2.alloc (.cells #[.func (.func 71) #[] #[]] 116)) S _ w3 hw3 (by omega) (b1.alloc (.cells #[.func (.func 71) #[] #[]] 116))
  replace b2 := keepPut (S + 2) (w2.alloc (.cells #[.func (.func 71) #[] #[]] 116)) S _ w3 hw3 (by omega) (b2.alloc (.cells #[.func (.func 71) #[] #[]] 116))
  rw [hw3]
  clear hw3 a3 t2 s2 n2
  go_wp2_with fail
  -- 4
  have a4 : (w3.alloc (.cells #[.func (.func 73) #[] #[], .func (.func 74) #[] #[]] 116)).heap[S]? = some (.map ((tellsES S).take 3).toArray 3) := (Below.heap_alloc _ _ _ (by rw [s3]; omega)).trans t3
  rw [upd_run Try.underlying80 Try.underlying37 a4 4 _ rfl]
  obtain ⟨w4, hw4⟩ : ∃ W, (w3.alloc (.cells #[.func (.func 73) #[] #[], .func (.func 74) #[] #[]] 116)).putObj S (.map (((tellsES S).take 3).toArray.push { key := .int .i64 4, val := .slice (some ⟨S + 4, 0, none⟩) 2 2, born := 3 }) (3 + 1)) = W := ⟨_, rfl⟩
  have t4 : w4.heap[S]? = some (.map ((tellsES S).take 4).toArray 4) := by rw [← hw4, World.putObj_heap_same (by rw [World.size_alloc, s3]; omega)]; rfl
  have s4 : w4.heap.size = S + 5 := by rw [← hw4]; simp [World.putObj, s3]
  have n4 : Below S w w4 := by rw [← hw4]; exact belowPut (n3.alloc (by have := n3.size; omega) _) (Nat.le_refl _) _
  have b4 : Blk w4 (S + 4) 116 #[.func (.func 73) #[] #[], .func (.func 74) #[] #[]] := by rw [← hw4]; exact (World.putObj_heap_other (by omega)).trans (Blk.last w3 116 #[.func (.func 73) #[] #[], .func (.func 74) #[] #[]] s3)
  replace b1 := keepPut (S + 1) (w3.alloc (.cells #[.func (.func 73) #[] #[], .func (.func 74) #[] #[]] 116)) S _ w4 hw4 (by omega) (b1.alloc (.cells #[.func (.func 73) #[] #[], .func (.func 74) #[] #[]] 116))
  replace b2 := keepPut (S + 2) (w3.alloc (.cells #[.func (.func 73) #[] #[], .func (.func 74) #[] #[]] 116)) S _ w4 hw4 (by omega) (b2.alloc (.cells #[.func (.func 73) #[] #[], .func (.func 74) #[] #[]] 116))
  replace b3 := keepPut (S + 3) (w3.alloc (.cells #[.func (.func 73) #[] #[], .func (.func 74) #[] #[]] 116)) S _ w4 hw4 (by omega) (b3.alloc (.cells #[.func (.func 73) #[] #[], .func (.func 74) #[] #[]] 116))
  rw [hw4]
  clear hw4 a4 t3 s3 n3
  go_wp2_with fail
  -- 5
  have a5 : (w4.alloc (.cells #[.func (.func 66) #[] #[]] 116)).heap[S]? = some (.map ((tellsES S).take 4).toArray 4) := (Below.heap_alloc _ _ _ (by rw [s4]; omega)).trans t4
  rw [upd_run Try.underlying80 Try.underlying37 a5 5 _ rfl]
  obtain ⟨w5, hw5⟩ : ∃ W, (w4.alloc (.cells #[.func (.func 66) #[] #[]] 116)).putObj S (.map (((tellsES S).take 4).toArray.push { key := .int .i64 5, val := .slice (some ⟨S + 5, 0, none⟩) 1 1, born := 4 }) (4 + 1)) = W := ⟨_, rfl⟩
  have t5 : w5.heap[S]? = some (.map ((tellsES S).take 5).toArray 5) := by rw [← hw5, World.putObj_heap_same (by rw [World.size_alloc, s4]; omega)]; rfl
  have s5 : w5.heap.size = S + 6 := by rw [← hw5]; simp [World.putObj, s4]
  have n5 : Below S w w5 := by rw [← hw5]; exact belowPut (n4.alloc (by have := n4.size; omega) _) (Nat.le_refl _) _
  have b5 : Blk w5 (S + 5) 116 #[.func (.func 66) #[] #[]] := by rw [← hw5]; exact (World.putObj_heap_other (by omega)).trans (Blk.last w4 116 #[.func (.func 66) #[] #[]] s4)
  replace b1 := keepPut (S + 1) (w4.alloc (.cells #[.func (.func 66) #[] #[]] 116)) S _ w5 hw5 (by omega) (b1.alloc (.cells #[.func (.func 66) #[] #[]] 116))
  replace b2 := keepPut (S + 2) (w4.alloc (.cells #[.func (.func 66) #[] #[]] 116)) S _ w5 hw5 (by omega) (b2.alloc (.cells #[.func (.func 66) #[] #[]] 116))
  replace b3 := keepPut (S + 3) (w4.alloc (.cells #[.func (.func 66) #[] #[]] 116)) S _ w5 hw5 (by omega) (b3.alloc (.cells #[.func (.func 66) #[] #[]] 116))
  replace b4 := keepPut (S + 4) (w4.alloc (.cells #[.func (.func 66) #[] #[]] 116)) S _ w5 hw5 (by omega) (b4.alloc (.cells #[.func (.func 66) #[] #[]] 116))
  rw [hw5]
  clear hw5 a5 t4 s4 n4
  go_wp2_with fail
  go_ret
  exact ⟨rfl, ⟨t5, b1, b2, b3, b4, b5⟩, n5⟩
/-- What asks hands back. -/
def asksES (S : Nat) : List MapEntry := [{ key := .int .i64 1, val := .slice (some ⟨S + 1, 0, none⟩) 2 2, born := 0 }, { key := .int .i64 2, val := .slice (some ⟨S + 2, 0, none⟩) 2 2, born := 1 }, { key := .int .i64 3, val := .slice (some ⟨S + 3, 0, none⟩) 2 2, born := 2 }, { key := .int .i64 4, val := .slice (some ⟨S + 4, 0, none⟩) 3 3, born := 3 }, { key := .int .i64 5, val := .slice (some ⟨S + 5, 0, none⟩) 2 2, born := 4 }, { key := .int .i64 6, val := .slice (some ⟨S + 6, 0, none⟩) 2 2, born := 5 }, { key := .int .i64 7, val := .slice (some ⟨S + 7, 0, none⟩) 1 1, born := 6 }, { key := .int .i64 8, val := .slice (some ⟨S + 8, 0, none⟩) 1 1, born := 7 }, { key := .int .i64 9, val := .slice (some ⟨S + 9, 0, none⟩) 1 1, born := 8 }, { key := .int .i64 10, val := .slice (some ⟨S + 10, 0, none⟩) 3 3, born := 9 }, { key := .int .i64 11, val := .slice (some ⟨S + 11, 0, none⟩) 1 1, born := 10 }, { key := .int .i64 12, val := .slice (some ⟨S + 12, 0, none⟩) 1 1, born := 11 }]
structure asksAt (w : World) (S : Nat) : Prop where
  tab : w.heap[S]? = some (.map (asksES S).toArray 12)
  p1 : Blk w (S + 1) 102 #[.func (.func 48) #[] #[], .func (.func 50) #[] #[]]
  p2 : Blk w (S + 2) 102 #[.func (.func 48) #[] #[], .func (.func 52) #[] #[]]
  p3 : Blk w (S + 3) 102 #[.func (.func 48) #[] #[], .func (.func 54) #[] #[]]
  p4 : Blk w (S + 4) 102 #[.func (.func 48) #[] #[], .func (.func 56) #[] #[], .func (.func 57) #[] #[]]
  p5 : Blk w (S + 5) 102 #[.func (.func 48) #[] #[], .func (.func 56) #[] #[]]
  p6 : Blk w (S + 6) 102 #[.func (.func 48) #[] #[], .func (.func 59) #[] #[]]
  p7 : Blk w (S + 7) 102 #[.func (.func 48) #[] #[]]
  p8 : Blk w (S + 8) 102 #[.func (.func 48) #[] #[]]
  p9 : Blk w (S + 9) 102 #[.func (.func 48) #[] #[]]
  p10 : Blk w (S + 10) 102 #[.func (.func 48) #[] #[], .func (.func 60) #[] #[], .func (.func 62) #[] #[]]
  p11 : Blk w (S + 11) 102 #[.func (.func 48) #[] #[]]
  p12 : Blk w (S + 12) 102 #[.func (.func 48) #[] #[]]
set_option maxHeartbeats 6400000 in
theorem asks_any (w : World) : Calls Try.prog 29 #[] w fun e w' => e = .returned (.map (some w.heap.size)) ∧ asksAt w' w.heap.size ∧ Below w.heap.size w w' := by
  have km : ∀ W : World, (Instr.makeMap 71 none).run Try.prog W = .ok (.map (some W.heap.size)) (W.alloc (.map #[] 0)) := fun W => by kernel_rfl
  obtain ⟨S, hS⟩ : ∃ S, w.heap.size = S := ⟨_, rfl⟩
  obtain ⟨w0, hw0⟩ : ∃ w0, w.alloc (.map #[] 0) = w0 := ⟨_, rfl⟩
  have t0 : w0.heap[S]? = some (.map ((asksES S).take 0).toArray 0) := by rw [← hw0, ← hS]; exact heap_alloc_last w _
  have s0 : w0.heap.size = S + 1 := by rw [← hw0, ← hS]; simp
  have n0 : Below S w w0 := by rw [← hw0, ← hS]; exact (Below.refl _ w).alloc (Nat.le_refl _) _
  rw [hS]
  have HS := Lib.hid hS
  have HW0 := Lib.hid hw0
  clear hS hw0
  go_enter Try.func29, Try.ntmps29
  go_wp2_with fail
  rw [HS.out, HW0.out]
  go_wp2_with fail
  -- 1
  have a1 : (w0.alloc (.cells #[.func (.func 48) #[] #[], .func (.func 50) #[] #[]] 102)).heap[S]? = some (.map ((asksES S).take 0).toArray 0) := (Below.heap_alloc _ _ _ (by rw [s0]; omega)).trans t0
  rw [upd_run Try.underlying71 Try.underlying24 a1 1 _ rfl]
  obtain ⟨w1, hw1⟩ : ∃ W, (w0.alloc (.cells #[.func (.func 48) #[] #[], .func (.func 50) #[] #[]] 102)).putObj S (.map (((asksES S).take 0).toArray.push { key := .int .i64 1, val := .slice (some ⟨S + 1, 0, none⟩) 2 2, born := 0 }) (0 + 1)) = W := ⟨_, rfl⟩
  have t1 : w1.heap[S]? = some (.map ((asksES S).take 1).toArray 1) := by rw [← hw1, World.putObj_heap_same (by rw [World.size_alloc, s0]; omega)]; rfl
  have s1 : w1.heap.size = S + 2 := by rw [← hw1]; simp [World.putObj, s0]
  have n1 : Below S w w1 := by rw [← hw1]; exact belowPut (n0.alloc (by have := n0.size; omega) _) (Nat.le_refl _) _
  have b1 : Blk w1 (S + 1) 102 #[.func (.func 48) #[] #[], .func (.func 50) #[] #[]] := by rw [← hw1]; exact (World.putObj_heap_other (by omega)).trans (Blk.last w0 102 #[.func (.func 48) #[] #[], .func (.func 50) #[] #[]] s0)
  rw [hw1]
  clear hw1 a1 t0 s0 n0
  go_wp2_with fail
  -- 2
  have a2 : (w1.alloc (.cells #[.func (.func 48) #[] #[], .func (.func 52) #[] #[]] 102)).heap[S]? = some (.map ((asksES S).take 1).toArray 1) := (Below.heap_alloc _ _ _ (by rw [s1]; omega)).trans t1
  rw [upd_run Try.underlying71 Try.underlying24 a2 2 _ rfl]
  obtain ⟨w2, hw2⟩ : ∃ W, (w1.alloc (.cells #[.func (.func 48) #[] #[], .func (.func 52) #[] #[]] 102)).putObj S (.map (((asksES S).take 1).toArray.push { key := .int .i64 2, val := .slice (some ⟨S + 2, 0, none⟩) 2 2, born := 1 }) (1 + 1)) = W := ⟨_, rfl⟩
  have t2 : w2.heap[S]? = some (.map ((asksES S).take 2).toArray 2) := by rw [← hw2, World.putObj_heap_same (by rw [World.size_alloc, s1]; omega)]; rfl
  have s2 : w2.heap.size = S + 3 := by rw [← hw2]; simp [World.putObj, s1]
  have n2 : Below S w w2 := by rw [← hw2]; exact belowPut (n1.alloc (by have := n1.size; omega) _) (Nat.le_refl _) _
  have b2 : Blk w2 (S + 2) 102 #[.func (.func 48) #[] #[], .func (.func 52) #[] #[]] := by rw [← hw2]; exact (World.putObj_heap_other (by omega)).trans (Blk.last w1 102 #[.func (.func 48) #[] #[], .func (.func 52) #[] #[]] s1)
  replace b1 := keepPut (S + 1) (w1.alloc (.cells #[.func (.func 48) #[] #[], .func (.func 52) #[] #[]] 102)) S _ w2 hw2 (by omega) (b1.alloc (.cells #[.func (.func 48) #[] #[], .func (.func 52) #[] #[]] 102))
  rw [hw2]
  clear hw2 a2 t1 s1 n1
  go_wp2_with fail
  -- 3
  have a3 : (w2.alloc (.cells #[.func (.func 48) #[] #[], .func (.func 54) #[] #[]] 102)).heap[S]? = some (.map ((asksES S).take 2).toArray 2) := (Below.heap_alloc _ _ _ (by rw [s2]; omega)).trans t2
  rw [upd_run Try.underlying71 Try.underlying24 a3 3 _ rfl]
  obtain ⟨w3, hw3⟩ : ∃ W, (w2.alloc (.cells #[.func (.func 48) #[] #[], .func (.func 54) #[] #[]] 102)).putObj S (.map (((asksES S).take 2).toArray.push { key := .int .i64 3, val := .slice (some ⟨S + 3, 0, none⟩) 2 2, born := 2 }) (2 + 1)) = W := ⟨_, rfl⟩
  have t3 : w3.heap[S]? = some (.map ((asksES S).take 3).toArray 3) := by rw [← hw3, World.putObj_heap_same (by rw [World.size_alloc, s2]; omega)]; rfl
  have s3 : w3.heap.size = S + 4 := by rw [← hw3]; simp [World.putObj, s2]
  have n3 : Below S w w3 := by rw [← hw3]; exact belowPut (n2.alloc (by have := n2.size; omega) _) (Nat.le_refl _) _
  have b3 : Blk w3 (S + 3) 102 #[.func (.func 48) #[] #[], .func (.func 54) #[] #[]] := by rw [← hw3]; exact (World.putObj_heap_other (by omega)).trans (Blk.last w2 102 #[.func (.func 48) #[] #[], .func (.func 54) #[] #[]] s2)
  replace b1 := keepPut (S + 1) (w2.alloc (.cells #[.func (.func 48) #[] #[], .func (.func 54) #[] #[]] 102)) S _ w3 hw3 (by omega) (b1.alloc (.cells #[.func (.func 48) #[] #[], .func (.func 54) #[] #[]] 102))
  replace b2 := keepPut (S + 2) (w2.alloc (.cells #[.func (.func 48) #[] #[], .func (.func 54) #[] #[]] 102)) S _ w3 hw3 (by omega) (b2.alloc (.cells #[.func (.func 48) #[] #[], .func (.func 54) #[] #[]] 102))
  rw [hw3]
  clear hw3 a3 t2 s2 n2
  go_wp2_with fail
  -- 4
  have a4 : (w3.alloc (.cells #[.func (.func 48) #[] #[], .func (.func 56) #[] #[], .func (.func 57) #[] #[]] 102)).heap[S]? = some (.map ((asksES S).take 3).toArray 3) := (Below.heap_alloc _ _ _ (by rw [s3]; omega)).trans t3
  rw [upd_run Try.underlying71 Try.underlying24 a4 4 _ rfl]
  obtain ⟨w4, hw4⟩ : ∃ W, (w3.alloc (.cells #[.func (.func 48) #[] #[], .func (.func 56) #[] #[], .func (.func 57) #[] #[]] 102)).putObj S (.map (((asksES S).take 3).toArray.push { key := .int .i64 4, val := .slice (some ⟨S + 4, 0, none⟩) 3 3, born := 3 }) (3 + 1)) = W := ⟨_, rfl⟩
  have t4 : w4.heap[S]? = some (.map ((asksES S).take 4).toArray 4) := by rw [← hw4, World.putObj_heap_same (by rw [World.size_alloc, s3]; omega)]; rfl
  have s4 : w4.heap.size = S + 5 := by rw [← hw4]; simp [World.putObj, s3]
  have n4 : Below S w w4 := by rw [← hw4]; exact belowPut (n3.alloc (by have := n3.size; omega) _) (Nat.le_refl _) _
  have b4 : Blk w4 (S + 4) 102 #[.func (.func 48) #[] #[], .func (.func 56) #[] #[], .func (.func 57) #[] #[]] := by rw [← hw4]; exact (World.putObj_heap_other (by omega)).trans (Blk.last w3 102 #[.func (.func 48) #[] #[], .func (.func 56) #[] #[], .func (.func 57) #[] #[]] s3)
  replace b1 := keepPut (S + 1) (w3.alloc (.cells #[.func (.func 48) #[] #[], .func (.func 56) #[] #[], .func (.func 57) #[] #[]] 102)) S _ w4 hw4 (by omega) (b1.alloc (.cells #[.func (.func 48) #[] #[], .func (.func 56) #[] #[], .func (.func 57) #[] #[]] 102))
  replace b2 := keepPut (S + 2) (w3.alloc (.cells #[.func (.func 48) #[] #[], .func (.func 56) #[] #[], .func (.func 57) #[] #[]] 102)) S _ w4 hw4 (by omega) (b2.alloc (.cells #[.func (.func 48) #[] #[], .func (.func 56) #[] #[], .func (.func 57) #[] #[]] 102))
  replace b3 := keepPut (S + 3) (w3.alloc (.cells #[.func (.func 48) #[] #[], .func (.func 56) #[] #[], .func (.func 57) #[] #[]] 102)) S _ w4 hw4 (by omega) (b3.alloc (.cells #[.func (.func 48) #[] #[], .func (.func 56) #[] #[], .func (.func 57) #[] #[]] 102))
  rw [hw4]
  clear hw4 a4 t3 s3 n3
  go_wp2_with fail
  -- 5
  have a5 : (w4.alloc (.cells #[.func (.func 48) #[] #[], .func (.func 56) #[] #[]] 102)).heap[S]? = some (.map ((asksES S).take 4).toArray 4) := (Below.heap_alloc _ _ _ (by rw [s4]; omega)).trans t4
  rw [upd_run Try.underlying71 Try.underlying24 a5 5 _ rfl]
  obtain ⟨w5, hw5⟩ : ∃ W, (w4.alloc (.cells #[.func (.func 48) #[] #[], .func (.func 56) #[] #[]] 102)).putObj S (.map (((asksES S).take 4).toArray.push { key := .int .i64 5, val := .slice (some ⟨S + 5, 0, none⟩) 2 2, born := 4 }) (4 + 1)) = W := ⟨_, rfl⟩
  have t5 : w5.heap[S]? = some (.map ((asksES S).take 5).toArray 5) := by rw [← hw5, World.putObj_heap_same (by rw [World.size_alloc, s4]; omega)]; rfl
  have s5 : w5.heap.size = S + 6 := by rw [← hw5]; simp [World.putObj, s4]
  have n5 : Below S w w5 := by rw [← hw5]; exact belowPut (n4.alloc (by have := n4.size; omega) _) (Nat.le_refl _) _
  have b5 : Blk w5 (S + 5) 102 #[.func (.func 48) #[] #[], .func (.func 56) #[] #[]] := by rw [← hw5]; exact (World.putObj_heap_other (by omega)).trans (Blk.last w4 102 #[.func (.func 48) #[] #[], .func (.func 56) #[] #[]] s4)
  replace b1 := keepPut (S + 1) (w4.alloc (.cells #[.func (.func 48) #[] #[], .func (.func 56) #[] #[]] 102)) S _ w5 hw5 (by omega) (b1.alloc (.cells #[.func (.func 48) #[] #[], .func (.func 56) #[] #[]] 102))
  replace b2 := keepPut (S + 2) (w4.alloc (.cells #[.func (.func 48) #[] #[], .func (.func 56) #[] #[]] 102)) S _ w5 hw5 (by omega) (b2.alloc (.cells #[.func (.func 48) #[] #[], .func (.func 56) #[] #[]] 102))
  replace b3 := keepPut (S + 3) (w4.alloc (.cells #[.func (.func 48) #[] #[], .func (.func 56) #[] #[]] 102)) S _ w5 hw5 (by omega) (b3.alloc (.cells #[.func (.func 48) #[] #[], .func (.func 56) #[] #[]] 102))
  replace b4 := keepPut (S + 4) (w4.alloc (.cells #[.func (.func 48) #[] #[], .func (.func 56) #[] #[]] 102)) S _ w5 hw5 (by omega) (b4.alloc (.cells #[.func (.func 48) #[] #[], .func (.func 56) #[] #[]] 102))
  rw [hw5]
  clear hw5 a5 t4 s4 n4
  go_wp2_with fail
  -- 6
  have a6 : (w5.alloc (.cells #[.func (.func 48) #[] #[], .func (.func 59) #[] #[]] 102)).heap[S]? = some (.map ((asksES S).take 5).toArray 5) := (Below.heap_alloc _ _ _ (by rw [s5]; omega)).trans t5
  rw [upd_run Try.underlying71 Try.underlying24 a6 6 _ rfl]
  obtain ⟨w6, hw6⟩ : ∃ W, (w5.alloc (.cells #[.func (.func 48) #[] #[], .func (.func 59) #[] #[]] 102)).putObj S (.map (((asksES S).take 5).toArray.push { key := .int .i64 6, val := .slice (some ⟨S + 6, 0, none⟩) 2 2, born := 5 }) (5 + 1)) = W := ⟨_, rfl⟩
  have t6 : w6.heap[S]? = some (.map ((asksES S).take 6).toArray 6) := by rw [← hw6, World.putObj_heap_same (by rw [World.size_alloc, s5]; omega)]; rfl
  have s6 : w6.heap.size = S + 7 := by rw [← hw6]; simp [World.putObj, s5]
  have n6 : Below S w w6 := by rw [← hw6]; exact belowPut (n5.alloc (by have := n5.size; omega) _) (Nat.le_refl _) _
  have b6 : Blk w6 (S + 6) 102 #[.func (.func 48) #[] #[], .func (.func 59) #[] #[]] := by rw [← hw6]; exact (World.putObj_heap_other (by omega)).trans (Blk.last w5 102 #[.func (.func 48) #[] #[], .func (.func 59) #[] #[]] s5)
  replace b1 := keepPut (S + 1) (w5.alloc (.cells #[.func (.func 48) #[] #[], .func (.func 59) #[] #[]] 102)) S _ w6 hw6 (by omega) (b1.alloc (.cells #[.func (.func 48) #[] #[], .func (.func 59) #[] #[]] 102))
  replace b2 := keepPut (S + 2) (w5.alloc (.cells #[.func (.func 48) #[] #[], .func (.func 59) #[] #[]] 102)) S _ w6 hw6 (by omega) (b2.alloc (.cells #[.func (.func 48) #[] #[], .func (.func 59) #[] #[]] 102))
  replace b3 := keepPut (S + 3) (w5.alloc (.cells #[.func (.func 48) #[] #[], .func (.func 59) #[] #[]] 102)) S _ w6 hw6 (by omega) (b3.alloc (.cells #[.func (.func 48) #[] #[], .func (.func 59) #[] #[]] 102))
  replace b4 := keepPut (S + 4) (w5.alloc (.cells #[.func (.func 48) #[] #[], .func (.func 59) #[] #[]] 102)) S _ w6 hw6 (by omega) (b4.alloc (.cells #[.func (.func 48) #[] #[], .func (.func 59) #[] #[]] 102))
  replace b5 := keepPut (S + 5) (w5.alloc (.cells #[.func (.func 48) #[] #[], .func (.func 59) #[] #[]] 102)) S _ w6 hw6 (by omega) (b5.alloc (.cells #[.func (.func 48) #[] #[], .func (.func 59) #[] #[]] 102))
  rw [hw6]
  clear hw6 a6 t5 s5 n5
  go_wp2_with fail
  -- 7
  have a7 : (w6.alloc (.cells #[.func (.func 48) #[] #[]] 102)).heap[S]? = some (.map ((asksES S).take 6).toArray 6) := (Below.heap_alloc _ _ _ (by rw [s6]; omega)).trans t6
  rw [upd_run Try.underlying71 Try.underlying24 a7 7 _ rfl]
  obtain ⟨w7, hw7⟩ : ∃ W, (w6.alloc (.cells #[.func (.func 48) #[] #[]] 102)).putObj S (.map (((asksES S).take 6).toArray.push { key := .int .i64 7, val := .slice (some ⟨S + 7, 0, none⟩) 1 1, born := 6 }) (6 + 1)) = W := ⟨_, rfl⟩
  have t7 : w7.heap[S]? = some (.map ((asksES S).take 7).toArray 7) := by rw [← hw7, World.putObj_heap_same (by rw [World.size_alloc, s6]; omega)]; rfl
  have s7 : w7.heap.size = S + 8 := by rw [← hw7]; simp [World.putObj, s6]
  have n7 : Below S w w7 := by rw [← hw7]; exact belowPut (n6.alloc (by have := n6.size; omega) _) (Nat.le_refl _) _
  have b7 : Blk w7 (S + 7) 102 #[.func (.func 48) #[] #[]] := by rw [← hw7]; exact (World.putObj_heap_other (by omega)).trans (Blk.last w6 102 #[.func (.func 48) #[] #[]] s6)
  replace b1 := keepPut (S + 1) (w6.alloc (.cells #[.func (.func 48) #[] #[]] 102)) S _ w7 hw7 (by omega) (b1.alloc (.cells #[.func (.func 48) #[] #[]] 102))
  replace b2 := keepPut (S + 2) (w6.alloc (.cells #[.func (.func 48) #[] #[]] 102)) S _ w7 hw7 (by omega) (b2.alloc (.cells #[.func (.func 48) #[] #[]] 102))
  replace b3 := keepPut (S + 3) (w6.alloc (.cells #[.func (.func 48) #[] #[]] 102)) S _ w7 hw7 (by omega) (b3.alloc (.cells #[.func (.func 48) #[] #[]] 102))
  replace b4 := keepPut (S + 4) (w6.alloc (.cells #[.func (.func 48) #[] #[]] 102)) S _ w7 hw7 (by omega) (b4.alloc (.cells #[.func (.func 48) #[] #[]] 102))
  replace b5 := keepPut (S + 5) (w6.alloc (.cells #[.func (.func 48) #[] #[]] 102)) S _ w7 hw7 (by omega) (b5.alloc (.cells #[.func (.func 48) #[] #[]] 102))
  replace b6 := keepPut (S + 6) (w6.alloc (.cells #[.func (.func 48) #[] #[]] 102)) S _ w7 hw7 (by omega) (b6.alloc (.cells #[.func (.func 48) #[] #[]] 102))
  rw [hw7]
  clear hw7 a7 t6 s6 n6
  go_wp2_with fail
  -- 8
  have a8 : (w7.alloc (.cells #[.func (.func 48) #[] #[]] 102)).heap[S]? = some (.map ((asksES S).take 7).toArray 7) := (Below.heap_alloc _ _ _ (by rw [s7]; omega)).trans t7
  rw [upd_run Try.underlying71 Try.underlying24 a8 8 _ rfl]
  obtain ⟨w8, hw8⟩ : ∃ W, (w7.alloc (.cells #[.func (.func 48) #[] #[]] 102)).putObj S (.map (((asksES S).take 7).toArray.push { key := .int .i64 8, val := .slice (some ⟨S + 8, 0, none⟩) 1 1, born := 7 }) (7 + 1)) = W := ⟨_, rfl⟩
  have t8 : w8.heap[S]? = some (.map ((asksES S).take 8).toArray 8) := by rw [← hw8, World.putObj_heap_same (by rw [World.size_alloc, s7]; omega)]; rfl
  have s8 : w8.heap.size = S + 9 := by rw [← hw8]; simp [World.putObj, s7]
  have n8 : Below S w w8 := by rw [← hw8]; exact belowPut (n7.alloc (by have := n7.size; omega) _) (Nat.le_refl _) _
  have b8 : Blk w8 (S + 8) 102 #[.func (.func 48) #[] #[]] := by rw [← hw8]; exact (World.putObj_heap_other (by omega)).trans (Blk.last w7 102 #[.func (.func 48) #[] #[]] s7)
  replace b1 := keepPut (S + 1) (w7.alloc (.cells #[.func (.func 48) #[] #[]] 102)) S _ w8 hw8 (by omega) (b1.alloc (.cells #[.func (.func 48) #[] #[]] 102))
  replace b2 := keepPut (S + 2) (w7.alloc (.cells #[.func (.func 48) #[] #[]] 102)) S _ w8 hw8 (by omega) (b2.alloc (.cells #[.func (.func 48) #[] #[]] 102))
  replace b3 := keepPut (S + 3) (w7.alloc (.cells #[.func (.func 48) #[] #[]] 102)) S _ w8 hw8 (by omega) (b3.alloc (.cells #[.func (.func 48) #[] #[]] 102))
  replace b4 := keepPut (S + 4) (w7.alloc (.cells #[.func (.func 48) #[] #[]] 102)) S _ w8 hw8 (by omega) (b4.alloc (.cells #[.func (.func 48) #[] #[]] 102))
  replace b5 := keepPut (S + 5) (w7.alloc (.cells #[.func (.func 48) #[] #[]] 102)) S _ w8 hw8 (by omega) (b5.alloc (.cells #[.func (.func 48) #[] #[]] 102))
  replace b6 := keepPut (S + 6) (w7.alloc (.cells #[.func (.func 48) #[] #[]] 102)) S _ w8 hw8 (by omega) (b6.alloc (.cells #[.func (.func 48) #[] #[]] 102))
  replace b7 := keepPut (S + 7) (w7.alloc (.cells #[.func (.func 48) #[] #[]] 102)) S _ w8 hw8 (by omega) (b7.alloc (.cells #[.func (.func 48) #[] #[]] 102))
  rw [hw8]
  clear hw8 a8 t7 s7 n7
  go_wp2_with fail
  -- 9
  have a9 : (w8.alloc (.cells #[.func (.func 48) #[] #[]] 102)).heap[S]? = some (.map ((asksES S).take 8).toArray 8) := (Below.heap_alloc _ _ _ (by rw [s8]; omega)).trans t8
  rw [upd_run Try.underlying71 Try.underlying24 a9 9 _ rfl]
  obtain ⟨w9, hw9⟩ : ∃ W, (w8.alloc (.cells #[.func (.func 48) #[] #[]] 102)).putObj S (.map (((asksES S).take 8).toArray.push { key := .int .i64 9, val := .slice (some ⟨S + 9, 0, none⟩) 1 1, born := 8 }) (8 + 1)) = W := ⟨_, rfl⟩
  have t9 : w9.heap[S]? = some (.map ((asksES S).take 9).toArray 9) := by rw [← hw9, World.putObj_heap_same (by rw [World.size_alloc, s8]; omega)]; rfl
  have s9 : w9.heap.size = S + 10 := by rw [← hw9]; simp [World.putObj, s8]
  have n9 : Below S w w9 := by rw [← hw9]; exact belowPut (n8.alloc (by have := n8.size; omega) _) (Nat.le_refl _) _
  have b9 : Blk w9 (S + 9) 102 #[.func (.func 48) #[] #[]] := by rw [← hw9]; exact (World.putObj_heap_other (by omega)).trans (Blk.last w8 102 #[.func (.func 48) #[] #[]] s8)
  replace b1 := keepPut (S + 1) (w8.alloc (.cells #[.func (.func 48) #[] #[]] 102)) S _ w9 hw9 (by omega) (b1.alloc (.cells #[.func (.func 48) #[] #[]] 102))
  replace b2 := keepPut (S + 2) (w8.alloc (.cells #[.func (.func 48) #[] #[]] 102)) S _ w9 hw9 (by omega) (b2.alloc (.cells #[.func (.func 48) #[] #[]] 102))
  replace b3 := keepPut (S + 3) (w8.alloc (.cells #[.func (.func 48) #[] #[]] 102)) S _ w9 hw9 (by omega) (b3.alloc (.cells #[.func (.func 48) #[] #[]] 102))
  replace b4 := keepPut (S + 4) (w8.alloc (.cells #[.func (.func 48) #[] #[]] 102)) S _ w9 hw9 (by omega) (b4.alloc (.cells #[.func (.func 48) #[] #[]] 102))
  replace b5 := keepPut (S + 5) (w8.alloc (.cells #[.func (.func 48) #[] #[]] 102)) S _ w9 hw9 (by omega) (b5.alloc (.cells #[.func (.func 48) #[] #[]] 102))
  replace b6 := keepPut (S + 6) (w8.alloc (.cells #[.func (.func 48) #[] #[]] 102)) S _ w9 hw9 (by omega) (b6.alloc (.cells #[.func (.func 48) #[] #[]] 102))
  replace b7 := keepPut (S + 7) (w8.alloc (.cells #[.func (.func 48) #[] #[]] 102)) S _ w9 hw9 (by omega) (b7.alloc (.cells #[.func (.func 48) #[] #[]] 102))
  replace b8 := keepPut (S + 8) (w8.alloc (.cells #[.func (.func 48) #[] #[]] 102)) S _ w9 hw9 (by omega) (b8.alloc (.cells #[.func (.func 48) #[] #[]] 102))
  rw [hw9]
  clear hw9 a9 t8 s8 n8
  go_wp2_with fail
  -- 10
  have a10 : (w9.alloc (.cells #[.func (.func 48) #[] #[], .func (.func 60) #[] #[], .func (.func 62) #[] #[]] 102)).heap[S]? = some (.map ((asksES S).take 9).toArray 9) := (Below.heap_alloc _ _ _ (by rw [s9]; omega)).trans t9
  rw [upd_run Try.underlying71 Try.underlying24 a10 10 _ rfl]
  obtain ⟨w10, hw10⟩ : ∃ W, (w9.alloc (.cells #[.func (.func 48) #[] #[], .func (.func 60) #[] #[], .func (.func 62) #[] #[]] 102)).putObj S (.map (((asksES S).take 9).toArray.push { key := .int .i64 10, val := .slice (some ⟨S + 10, 0, none⟩) 3 3, born := 9 }) (9 + 1)) = W := ⟨_, rfl⟩
  have t10 : w10.heap[S]? = some (.map ((asksES S).take 10).toArray 10) := by rw [← hw10, World.putObj_heap_same (by rw [World.size_alloc, s9]; omega)]; rfl
  have s10 : w10.heap.size = S + 11 := by rw [← hw10]; simp [World.putObj, s9]
  have n10 : Below S w w10 := by rw [← hw10]; exact belowPut (n9.alloc (by have := n9.size; omega) _) (Nat.le_refl _) _
  have b10 : Blk w10 (S + 10) 102 #[.func (.func 48) #[] #[], .func (.func 60) #[] #[], .func (.func 62) #[] #[]] := by rw [← hw10]; exact (World.putObj_heap_other (by omega)).trans (Blk.last w9 102 #[.func (.func 48) #[] #[], .func (.func 60) #[] #[], .func (.func 62) #[] #[]] s9)
  replace b1 := keepPut (S + 1) (w9.alloc (.cells #[.func (.func 48) #[] #[], .func (.func 60) #[] #[], .func (.func 62) #[] #[]] 102)) S _ w10 hw10 (by omega) (b1.alloc (.cells #[.func (.func 48) #[] #[], .func (.func 60) #[] #[], .func (.func 62) #[] #[]] 102))
  replace b2 := keepPut (S + 2) (w9.alloc (.cells #[.func (.func 48) #[] #[], .func (.func 60) #[] #[], .func (.func 62) #[] #[]] 102)) S _ w10 hw10 (by omega) (b2.alloc (.cells #[.func (.func 48) #[] #[], .func (.func 60) #[] #[], .func (.func 62) #[] #[]] 102))
  replace b3 := keepPut (S + 3) (w9.alloc (.cells #[.func (.func 48) #[] #[], .func (.func 60) #[] #[], .func (.func 62) #[] #[]] 102)) S _ w10 hw10 (by omega) (b3.alloc (.cells #[.func (.func 48) #[] #[], .func (.func 60) #[] #[], .func (.func 62) #[] #[]] 102))
  replace b4 := keepPut (S + 4) (w9.alloc (.cells #[.func (.func 48) #[] #[], .func (.func 60) #[] #[], .func (.func 62) #[] #[]] 102)) S _ w10 hw10 (by omega) (b4.alloc (.cells #[.func (.func 48) #[] #[], .func (.func 60) #[] #[], .func (.func 62) #[] #[]] 102))
  replace b5 := keepPut (S + 5) (w9.alloc (.cells #[.func (.func 48) #[] #[], .func (.func 60) #[] #[], .func (.func 62) #[] #[]] 102)) S _ w10 hw10 (by omega) (b5.alloc (.cells #[.func (.func 48) #[] #[], .func (.func 60) #[] #[], .func (.func 62) #[] #[]] 102))
  replace b6 := keepPut (S + 6) (w9.alloc (.cells #[.func (.func 48) #[] #[], .func (.func 60) #[] #[], .func (.func 62) #[] #[]] 102)) S _ w10 hw10 (by omega) (b6.alloc (.cells #[.func (.func 48) #[] #[], .func (.func 60) #[] #[], .func (.func 62) #[] #[]] 102))
  replace b7 := keepPut (S + 7) (w9.alloc (.cells #[.func (.func 48) #[] #[], .func (.func 60) #[] #[], .func (.func 62) #[] #[]] 102)) S _ w10 hw10 (by omega) (b7.alloc (.cells #[.func (.func 48) #[] #[], .func (.func 60) #[] #[], .func (.func 62) #[] #[]] 102))
  replace b8 := keepPut (S + 8) (w9.alloc (.cells #[.func (.func 48) #[] #[], .func (.func 60) #[] #[], .func (.func 62) #[] #[]] 102)) S _ w10 hw10 (by omega) (b8.alloc (.cells #[.func (.func 48) #[] #[], .func (.func 60) #[] #[], .func (.func 62) #[] #[]] 102))
  replace b9 := keepPut (S + 9) (w9.alloc (.cells #[.func (.func 48) #[] #[], .func (.func 60) #[] #[], .func (.func 62) #[] #[]] 102)) S _ w10 hw10 (by omega) (b9.alloc (.cells #[.func (.func 48) #[] #[], .func (.func 60) #[] #[], .func (.func 62) #[] #[]] 102))
  rw [hw10]
  clear hw10 a10 t9 s9 n9
  go_wp2_with fail
  -- 11
  have a11 : (w10.alloc (.cells #[.func (.func 48) #[] #[]] 102)).heap[S]? = some (.map ((asksES S).take 10).toArray 10) := (Below.heap_alloc _ _ _ (by rw [s10]; omega)).trans t10
  rw [upd_run Try.underlying71 Try.underlying24 a11 11 _ rfl]
  obtain ⟨w11, hw11⟩ : ∃ W, (w10.alloc (.cells #[.func (.func 48) #[] #[]] 102)).putObj S (.map (((asksES S).take 10).toArray.push { key := .int .i64 11, val := .slice (some ⟨S + 11, 0, none⟩) 1 1, born := 10 }) (10 + 1)) = W := ⟨_, rfl⟩
  have t11 : w11.heap[S]? = some (.map ((asksES S).take 11).toArray 11) := by rw [← hw11, World.putObj_heap_same (by rw [World.size_alloc, s10]; omega)]; rfl
  have s11 : w11.heap.size = S + 12 := by rw [← hw11]; simp [World.putObj, s10]
  have n11 : Below S w w11 := by rw [← hw11]; exact belowPut (n10.alloc (by have := n10.size; omega) _) (Nat.le_refl _) _
  have b11 : Blk w11 (S + 11) 102 #[.func (.func 48) #[] #[]] := by rw [← hw11]; exact (World.putObj_heap_other (by omega)).trans (Blk.last w10 102 #[.func (.func 48) #[] #[]] s10)
  replace b1 := keepPut (S + 1) (w10.alloc (.cells #[.func (.func 48) #[] #[]] 102)) S _ w11 hw11 (by omega) (b1.alloc (.cells #[.func (.func 48) #[] #[]] 102))
  replace b2 := keepPut (S + 2) (w10.alloc (.cells #[.func (.func 48) #[] #[]] 102)) S _ w11 hw11 (by omega) (b2.alloc (.cells #[.func (.func 48) #[] #[]] 102))
  replace b3 := keepPut (S + 3) (w10.alloc (.cells #[.func (.func 48) #[] #[]] 102)) S _ w11 hw11 (by omega) (b3.alloc (.cells #[.func (.func 48) #[] #[]] 102))
  replace b4 := keepPut (S + 4) (w10.alloc (.cells #[.func (.func 48) #[] #[]] 102)) S _ w11 hw11 (by omega) (b4.alloc (.cells #[.func (.func 48) #[] #[]] 102))
  replace b5 := keepPut (S + 5) (w10.alloc (.cells #[.func (.func 48) #[] #[]] 102)) S _ w11 hw11 (by omega) (b5.alloc (.cells #[.func (.func 48) #[] #[]] 102))
  replace b6 := keepPut (S + 6) (w10.alloc (.cells #[.func (.func 48) #[] #[]] 102)) S _ w11 hw11 (by omega) (b6.alloc (.cells #[.func (.func 48) #[] #[]] 102))
  replace b7 := keepPut (S + 7) (w10.alloc (.cells #[.func (.func 48) #[] #[]] 102)) S _ w11 hw11 (by omega) (b7.alloc (.cells #[.func (.func 48) #[] #[]] 102))
  replace b8 := keepPut (S + 8) (w10.alloc (.cells #[.func (.func 48) #[] #[]] 102)) S _ w11 hw11 (by omega) (b8.alloc (.cells #[.func (.func 48) #[] #[]] 102))
  replace b9 := keepPut (S + 9) (w10.alloc (.cells #[.func (.func 48) #[] #[]] 102)) S _ w11 hw11 (by omega) (b9.alloc (.cells #[.func (.func 48) #[] #[]] 102))
  replace b10 := keepPut (S + 10) (w10.alloc (.cells #[.func (.func 48) #[] #[]] 102)) S _ w11 hw11 (by omega) (b10.alloc (.cells #[.func (.func 48) #[] #[]] 102))
  rw [hw11]
  clear hw11 a11 t10 s10 n10
  go_wp2_with fail
  -- 12
  have a12 : (w11.alloc (.cells #[.func (.func 48) #[] #[]] 102)).heap[S]? = some (.map ((asksES S).take 11).toArray 11) := (Below.heap_alloc _ _ _ (by rw [s11]; omega)).trans t11
  rw [upd_run Try.underlying71 Try.underlying24 a12 12 _ rfl]
  obtain ⟨w12, hw12⟩ : ∃ W, (w11.alloc (.cells #[.func (.func 48) #[] #[]] 102)).putObj S (.map (((asksES S).take 11).toArray.push { key := .int .i64 12, val := .slice (some ⟨S + 12, 0, none⟩) 1 1, born := 11 }) (11 + 1)) = W := ⟨_, rfl⟩
  have t12 : w12.heap[S]? = some (.map ((asksES S).take 12).toArray 12) := by rw [← hw12, World.putObj_heap_same (by rw [World.size_alloc, s11]; omega)]; rfl
  have s12 : w12.heap.size = S + 13 := by rw [← hw12]; simp [World.putObj, s11]
  have n12 : Below S w w12 := by rw [← hw12]; exact belowPut (n11.alloc (by have := n11.size; omega) _) (Nat.le_refl _) _
  have b12 : Blk w12 (S + 12) 102 #[.func (.func 48) #[] #[]] := by rw [← hw12]; exact (World.putObj_heap_other (by omega)).trans (Blk.last w11 102 #[.func (.func 48) #[] #[]] s11)
  replace b1 := keepPut (S + 1) (w11.alloc (.cells #[.func (.func 48) #[] #[]] 102)) S _ w12 hw12 (by omega) (b1.alloc (.cells #[.func (.func 48) #[] #[]] 102))
  replace b2 := keepPut (S + 2) (w11.alloc (.cells #[.func (.func 48) #[] #[]] 102)) S _ w12 hw12 (by omega) (b2.alloc (.cells #[.func (.func 48) #[] #[]] 102))
  replace b3 := keepPut (S + 3) (w11.alloc (.cells #[.func (.func 48) #[] #[]] 102)) S _ w12 hw12 (by omega) (b3.alloc (.cells #[.func (.func 48) #[] #[]] 102))
  replace b4 := keepPut (S + 4) (w11.alloc (.cells #[.func (.func 48) #[] #[]] 102)) S _ w12 hw12 (by omega) (b4.alloc (.cells #[.func (.func 48) #[] #[]] 102))
  replace b5 := keepPut (S + 5) (w11.alloc (.cells #[.func (.func 48) #[] #[]] 102)) S _ w12 hw12 (by omega) (b5.alloc (.cells #[.func (.func 48) #[] #[]] 102))
  replace b6 := keepPut (S + 6) (w11.alloc (.cells #[.func (.func 48) #[] #[]] 102)) S _ w12 hw12 (by omega) (b6.alloc (.cells #[.func (.func 48) #[] #[]] 102))
  replace b7 := keepPut (S + 7) (w11.alloc (.cells #[.func (.func 48) #[] #[]] 102)) S _ w12 hw12 (by omega) (b7.alloc (.cells #[.func (.func 48) #[] #[]] 102))
  replace b8 := keepPut (S + 8) (w11.alloc (.cells #[.func (.func 48) #[] #[]] 102)) S _ w12 hw12 (by omega) (b8.alloc (.cells #[.func (.func 48) #[] #[]] 102))
  replace b9 := keepPut (S + 9) (w11.alloc (.cells #[.func (.func 48) #[] #[]] 102)) S _ w12 hw12 (by omega) (b9.alloc (.cells #[.func (.func 48) #[] #[]] 102))
  replace b10 := keepPut (S + 10) (w11.alloc (.cells #[.func (.func 48) #[] #[]] 102)) S _ w12 hw12 (by omega) (b10.alloc (.cells #[.func (.func 48) #[] #[]] 102))
  replace b11 := keepPut (S + 11) (w11.alloc (.cells #[.func (.func 48) #[] #[]] 102)) S _ w12 hw12 (by omega) (b11.alloc (.cells #[.func (.func 48) #[] #[]] 102))
  rw [hw12]
  clear hw12 a12 t11 s11 n11
  go_wp2_with fail
  go_ret
  exact ⟨rfl, ⟨t12, b1, b2, b3, b4, b5, b6, b7, b8, b9, b10, b11, b12⟩, n12⟩
end Go.Proofs.Ytnbcjjgilndlaaa
