/- The document's Machine. Helper. -/
import Derived.Test.YtgijkgngldfdiaaSqG
namespace Go.Proofs.Ytgijkgngldfdiaa
open Go.RowKit
set_option linter.unusedVariables false
set_option linter.unusedSimpArgs false
section
variable (m : Mdl) (pA fA : Option Addr) (pc fc : Nat) (w : World)
set_option maxRecDepth 100000
set_option maxHeartbeats 3200000
theorem refMachG_any (gA : Option Addr) (f gc : Nat) (i : Nat) (hi : i < m.procs.length) (h : MAt w m pA fA) :
    Calls Try.prog 61 #[.agg #[.slice pA m.procs.length pc, .slice gA f gc], .int .i64 ((i : Int) + 1)] w (MachOut w m i) := by
  obtain ⟨w2, hw2⟩ : ∃ w2, (w.alloc (.cells #[.slice pA m.procs.length pc, .slice gA f gc] 25)).alloc (.cells #[.int .i64 0, .slice none 0 0, .int .i64 0, .int .i64 0, .int .i64 0] 123) = w2 := ⟨_, rfl⟩
  have n2 : Nw w w2 := by rw [← hw2]; exact ((Nw.refl w).alloc _).alloc _
  have hb : Blk w2 w.heap.size 25 #[.slice pA m.procs.length pc, .slice gA f gc] := by rw [← hw2]; exact (Blk.last w _ _ rfl).alloc _
  have hz : Blk w2 (w.heap.size + 1) 123 #[.int .i64 0, .slice none 0 0, .int .i64 0, .int .i64 0, .int .i64 0] := by rw [← hw2]; exact Blk.last _ _ _ (by simp)
  have hs2 : w2.heap.size = w.heap.size + 2 := by rw [← hw2]; simp
  obtain ⟨XB, hXB⟩ : ∃ XB, w.heap.size = XB := ⟨_, rfl⟩
  obtain ⟨b, o, ep, hp⟩ := h.proc hi
  have hpd := getD_at hi
  obtain ⟨P, hP⟩ : ∃ P, m.procs[i] = P := ⟨_, rfl⟩
  rw [hP] at hp hpd
  obtain ⟨c0, ⟨kA, kc, c1, r1⟩, ⟨vA, vc, c2, r2⟩, c3, q1, q2⟩ := hp
  subst ep
  have HR1 := Lib.hid r1
  have c0 := n2.cell c0
  have c1 := n2.cell c1
  have c3 := n2.cell c3
  obtain ⟨N, hN⟩ : ∃ N, m.procs.length = N := ⟨_, rfl⟩
  have hNm : N ≤ 9223372036854775807 := by have := h.pn; rw [hN] at this; simpa [maxLen] using this
  rw [hXB] at hb hz hs2
  rw [hN] at hw2 hb ⊢
  rw [hN] at hi
  have x0 : w2.cell? ⟨XB, 0, none⟩ = some (.slice (some ⟨b, o, none⟩) N pc) := hb.cell 0
  have z0 : w2.cell? ⟨XB + 1, 0, none⟩ = some (.int .i64 0) := hz.cell 0
  have z1 : w2.cell? ⟨XB + 1, 1, none⟩ = some (.slice none 0 0) := hz.cell 1
  have z2 : w2.cell? ⟨XB + 1, 2, none⟩ = some (.int .i64 0) := hz.cell 2
  have z3 : w2.cell? ⟨XB + 1, 3, none⟩ = some (.int .i64 0) := hz.cell 3
  have z4 : w2.cell? ⟨XB + 1, 4, none⟩ = some (.int .i64 0) := hz.cell 4
  have g0 := hz.frozen 0
  have g1 := hz.frozen 1
  have g2 := hz.frozen 2
  have g3 := hz.frozen 3
  have g4 := hz.frozen 4
  have HS2 := Lib.hid hs2
  have HW2 := Lib.hid hw2
  have HXB := Lib.hid hXB
  have N2 := Lib.hid n2
  have HPD := Lib.hid hpd
  have HN := Lib.hid hN
  clear h hP hN hw2 hb hz hs2 hXB n2 c2 r1 r2 q1 q2 hpd
  have wi : IntKind.i64.wrap (i : Int) = (i : Int) := by simp [IntKind.wrap, IntKind.bits, IntKind.signed]; omega
  have wj : IntKind.i64.wrap ((i : Int) + 1 - 1) = (i : Int) := by rw [Int.add_sub_cancel]; exact wi
  have k2 : (0 : Int) ≤ (i : Int) := by omega
  have k3 : (i : Int) < (N : Int) := by omega
  clear hi hNm
  go_enter Try.func61, Try.ntmps61
  go_upto_region 1 with (fail)
  rw [HW2.out, HXB.out]
  have HS : Hid (∀ W, Nw w2 W → W.cell? ⟨XB, 0, none⟩ = some (.slice (some ⟨b, o, none⟩) N pc) ∧ W.cell? ⟨b, o + i * 4, none⟩ = some (.int .i64 P.vars) ∧ W.cell? ⟨b, o + i * 4 + 1, none⟩ = some (.slice kA P.ks.length kc) ∧ W.cell? ⟨b, o + i * 4 + 3, none⟩ = some (.int .i64 P.seed)) := Lib.hid fun W hW => ⟨hW.cell x0, hW.cell c0, hW.cell c1, hW.cell c3⟩
  clear x0 c0 c1 c3
  refine wp_region_F (fun W => W.cell? ⟨XB, 0, none⟩ = some (.slice (some ⟨b, o, none⟩) N pc) ∧ W.cell? ⟨b, o + i * 4, none⟩ = some (.int .i64 P.vars) ∧ W.cell? ⟨b, o + i * 4 + 1, none⟩ = some (.slice kA P.ks.length kc) ∧ W.cell? ⟨b, o + i * 4 + 3, none⟩ = some (.int .i64 P.seed)) [19] (by kernel_rfl) ?_
  have hS := HS.out w2.drew (Nw.refl w2).drew
  refine wpAnyF_takeT (i := 0) (v := ?_) rfl (by kernel_rfl) (by kernel_rfl) (by kernel_rfl) (by kernel_rfl) (by kernel_rfl) (by kernel_rfl) (fun _ _ _ h => h) (by rfl) ?_ hS ?_
  rotate_left
  · intro u hu
    try dsimp only at hu
    go_simp
    try with_reducible rfl
  try simp only [List.getElem_toArray, List.getElem_cons_succ, List.getElem_cons_zero, Act.put, List.setIfInBounds_toArray, List.set_cons_zero, List.set_cons_succ]
  refine wpAnyF_takeT (i := 1) (v := ?_) rfl (by kernel_rfl) (by kernel_rfl) (by kernel_rfl) (by kernel_rfl) (by kernel_rfl) (by kernel_rfl) (fun _ _ _ h => h) (by rfl) ?_ hS ?_
  rotate_left
  · intro u hu
    try dsimp only at hu
    go_simp
    try with_reducible rfl
  try simp only [List.getElem_toArray, List.getElem_cons_succ, List.getElem_cons_zero, Act.put, List.setIfInBounds_toArray, List.set_cons_zero, List.set_cons_succ]
  refine wpAnyF_takeT (i := 2) (v := ?_) rfl (by kernel_rfl) (by kernel_rfl) (by kernel_rfl) (by kernel_rfl) (by kernel_rfl) (by kernel_rfl) (fun _ _ _ h => h) (by rfl) ?_ hS ?_
  rotate_left
  · intro u hu
    try dsimp only at hu
    go_simp
    try with_reducible rfl
  try simp only [List.getElem_toArray, List.getElem_cons_succ, List.getElem_cons_zero, Act.put, List.setIfInBounds_toArray, List.set_cons_zero, List.set_cons_succ]
  refine wpAnyF_takeT (i := 3) (v := ?_) rfl (by kernel_rfl) (by kernel_rfl) (by kernel_rfl) (by kernel_rfl) (by kernel_rfl) (by kernel_rfl) (fun _ _ _ h => h) (by rfl) ?_ hS ?_
  rotate_left
  · intro u hu
    try dsimp only at hu
    go_simp
    try with_reducible rfl
  try simp only [List.getElem_toArray, List.getElem_cons_succ, List.getElem_cons_zero, Act.put, List.setIfInBounds_toArray, List.set_cons_zero, List.set_cons_succ]
  refine wpAnyF_takeT (i := 4) (v := ?_) rfl (by kernel_rfl) (by kernel_rfl) (by kernel_rfl) (by kernel_rfl) (by kernel_rfl) (by kernel_rfl) (fun _ _ _ h => h) (by rfl) ?_ hS ?_
  rotate_left
  · intro u hu
    try dsimp only at hu
    go_simp
    try with_reducible rfl
  try simp only [List.getElem_toArray, List.getElem_cons_succ, List.getElem_cons_zero, Act.put, List.setIfInBounds_toArray, List.set_cons_zero, List.set_cons_succ]
  refine wpAnyF_takeT (i := 5) (v := ?_) rfl (by kernel_rfl) (by kernel_rfl) (by kernel_rfl) (by kernel_rfl) (by kernel_rfl) (by kernel_rfl) (fun _ _ _ h => h) (by rfl) ?_ hS ?_
  rotate_left
  · intro u hu
    try dsimp only at hu
    go_simp
    try with_reducible rfl
  try simp only [List.getElem_toArray, List.getElem_cons_succ, List.getElem_cons_zero, Act.put, List.setIfInBounds_toArray, List.set_cons_zero, List.set_cons_succ]
  refine wpAnyF_takeT (i := 6) (v := ?_) rfl (by kernel_rfl) (by kernel_rfl) (by kernel_rfl) (by kernel_rfl) (by kernel_rfl) (by kernel_rfl) (fun _ _ _ h => h) (by rfl) ?_ hS ?_
  rotate_left
  · intro u hu
    try dsimp only at hu
    go_simp
    try with_reducible rfl
  try simp only [List.getElem_toArray, List.getElem_cons_succ, List.getElem_cons_zero, Act.put, List.setIfInBounds_toArray, List.set_cons_zero, List.set_cons_succ]
  refine wpAnyF_takeT (i := 7) (v := ?_) rfl (by kernel_rfl) (by kernel_rfl) (by kernel_rfl) (by kernel_rfl) (by kernel_rfl) (by kernel_rfl) (fun _ _ _ h => h) (by rfl) ?_ hS ?_
  rotate_left
  · intro u hu
    try dsimp only at hu
    go_simp
    try with_reducible rfl
  try simp only [List.getElem_toArray, List.getElem_cons_succ, List.getElem_cons_zero, Act.put, List.setIfInBounds_toArray, List.set_cons_zero, List.set_cons_succ]
  refine wpAnyF_takeT (i := 8) (v := ?_) rfl (by kernel_rfl) (by kernel_rfl) (by kernel_rfl) (by kernel_rfl) (by kernel_rfl) (by kernel_rfl) (fun _ _ _ h => h) (by rfl) ?_ hS ?_
  rotate_left
  · intro u hu
    try dsimp only at hu
    go_simp
    try with_reducible rfl
  try simp only [List.getElem_toArray, List.getElem_cons_succ, List.getElem_cons_zero, Act.put, List.setIfInBounds_toArray, List.set_cons_zero, List.set_cons_succ]
  refine wpAnyF_takeT (i := 9) (v := ?_) rfl (by kernel_rfl) (by kernel_rfl) (by kernel_rfl) (by kernel_rfl) (by kernel_rfl) (by kernel_rfl) (fun _ _ _ h => h) (by rfl) ?_ hS ?_
  rotate_left
  · intro u hu
    try dsimp only at hu
    go_simp
    try with_reducible rfl
  try simp only [List.getElem_toArray, List.getElem_cons_succ, List.getElem_cons_zero, Act.put, List.setIfInBounds_toArray, List.set_cons_zero, List.set_cons_succ]
  refine wpAnyF_takeT (i := 10) (v := ?_) rfl (by kernel_rfl) (by kernel_rfl) (by kernel_rfl) (by kernel_rfl) (by kernel_rfl) (by kernel_rfl) (fun _ _ _ h => h) (by rfl) ?_ hS ?_
  rotate_left
  · intro u hu
    try dsimp only at hu
    go_simp
    try with_reducible rfl
  try simp only [List.getElem_toArray, List.getElem_cons_succ, List.getElem_cons_zero, Act.put, List.setIfInBounds_toArray, List.set_cons_zero, List.set_cons_succ]
  refine wpAnyF_takeT (i := 11) (v := ?_) rfl (by kernel_rfl) (by kernel_rfl) (by kernel_rfl) (by kernel_rfl) (by kernel_rfl) (by kernel_rfl) (fun _ _ _ h => h) (by rfl) ?_ hS ?_
  rotate_left
  · intro u hu
    try dsimp only at hu
    go_simp
    try with_reducible rfl
  try simp only [List.getElem_toArray, List.getElem_cons_succ, List.getElem_cons_zero, Act.put, List.setIfInBounds_toArray, List.set_cons_zero, List.set_cons_succ]
  refine wpAnyF_takeT (i := 12) (v := ?_) rfl (by kernel_rfl) (by kernel_rfl) (by kernel_rfl) (by kernel_rfl) (by kernel_rfl) (by kernel_rfl) (fun _ _ _ h => h) (by rfl) ?_ hS ?_
  rotate_left
  · intro u hu
    try dsimp only at hu
    go_simp
    try with_reducible rfl
  try simp only [List.getElem_toArray, List.getElem_cons_succ, List.getElem_cons_zero, Act.put, List.setIfInBounds_toArray, List.set_cons_zero, List.set_cons_succ]
  refine wpAnyF_takeT (i := 13) (v := ?_) rfl (by kernel_rfl) (by kernel_rfl) (by kernel_rfl) (by kernel_rfl) (by kernel_rfl) (by kernel_rfl) (fun _ _ _ h => h) (by rfl) ?_ hS ?_
  rotate_left
  · intro u hu
    try dsimp only at hu
    go_simp
    try with_reducible rfl
  try simp only [List.getElem_toArray, List.getElem_cons_succ, List.getElem_cons_zero, Act.put, List.setIfInBounds_toArray, List.set_cons_zero, List.set_cons_succ]
  refine wpAnyF_takeT (i := 14) (v := ?_) rfl (by kernel_rfl) (by kernel_rfl) (by kernel_rfl) (by kernel_rfl) (by kernel_rfl) (by kernel_rfl) (fun _ _ _ h => h) (by rfl) ?_ hS ?_
  rotate_left
  · intro u hu
    try dsimp only at hu
    go_simp
    try with_reducible rfl
  try simp only [List.getElem_toArray, List.getElem_cons_succ, List.getElem_cons_zero, Act.put, List.setIfInBounds_toArray, List.set_cons_zero, List.set_cons_succ]
  refine wpAnyF_takeT (i := 15) (v := ?_) rfl (by kernel_rfl) (by kernel_rfl) (by kernel_rfl) (by kernel_rfl) (by kernel_rfl) (by kernel_rfl) (fun _ _ _ h => h) (by rfl) ?_ hS ?_
  rotate_left
  · intro u hu
    try dsimp only at hu
    go_simp
    try with_reducible rfl
  try simp only [List.getElem_toArray, List.getElem_cons_succ, List.getElem_cons_zero, Act.put, List.setIfInBounds_toArray, List.set_cons_zero, List.set_cons_succ]
  refine wpAnyF_takeT (i := 16) (v := ?_) rfl (by kernel_rfl) (by kernel_rfl) (by kernel_rfl) (by kernel_rfl) (by kernel_rfl) (by kernel_rfl) (fun _ _ _ h => h) (by rfl) ?_ hS ?_
  rotate_left
  · intro u hu
    try dsimp only at hu
    go_simp
    try with_reducible rfl
  try simp only [List.getElem_toArray, List.getElem_cons_succ, List.getElem_cons_zero, Act.put, List.setIfInBounds_toArray, List.set_cons_zero, List.set_cons_succ]
  refine wpAnyF_takeT (i := 17) (v := ?_) rfl (by kernel_rfl) (by kernel_rfl) (by kernel_rfl) (by kernel_rfl) (by kernel_rfl) (by kernel_rfl) (fun _ _ _ h => h) (by rfl) ?_ hS ?_
  rotate_left
  · intro u hu
    try dsimp only at hu
    go_simp
    try with_reducible rfl
  try simp only [List.getElem_toArray, List.getElem_cons_succ, List.getElem_cons_zero, Act.put, List.setIfInBounds_toArray, List.set_cons_zero, List.set_cons_succ]
  refine wpAnyF_takeT (i := 18) (v := ?_) rfl (by kernel_rfl) (by kernel_rfl) (by kernel_rfl) (by kernel_rfl) (by kernel_rfl) (by kernel_rfl) (fun _ _ _ h => h) (by rfl) ?_ hS ?_
  rotate_left
  · intro u hu
    try dsimp only at hu
    go_simp
    try with_reducible rfl
  try simp only [List.getElem_toArray, List.getElem_cons_succ, List.getElem_cons_zero, Act.put, List.setIfInBounds_toArray, List.set_cons_zero, List.set_cons_succ]
  refine wpAnyF_step (i := 19) (by kernel_rfl) rfl (by rfl) fun K hK => ?_
  go_simp
  refine hK _ _ (.inl (by kernel_rfl)) ?_
  clear hK K
  try simp only [List.getElem_toArray, List.getElem_cons_succ, List.getElem_cons_zero, Act.put, List.setIfInBounds_toArray, List.set_cons_zero, List.set_cons_succ]
  refine wpAnyF_done (by kernel_rfl) ?_ _
  go_wp2_with fail
  refine bodyPost_ret (v := .agg #[.int .i64 P.vars, .slice kA P.ks.length kc, .int .i64 ((i : Int) + 1), .int .i64 (N : Int), .int .i64 P.seed]) (by simp [results, Try.results61, go_sem, z0, z1, z2, z3, z4]) rfl ?_
  have hx : w.heap.size = XB := HXB.out
  have hs := HS2.out
  have hnw : ∀ a0 a1 a2 a3 a4, Nw w (((((w2.drew.setCell ⟨XB + 1, 0, none⟩ a0).setCell ⟨XB + 1, 1, none⟩ a1).setCell ⟨XB + 1, 2, none⟩ a2).setCell ⟨XB + 1, 3, none⟩ a3).setCell ⟨XB + 1, 4, none⟩ a4) := fun a0 a1 a2 a3 a4 =>
    ((((N2.out.drew.set (p := ⟨XB + 1, 0, none⟩) (by show _ ≤ XB + 1; omega) _).set (p := ⟨XB + 1, 1, none⟩) (by show _ ≤ XB + 1; omega) _).set (p := ⟨XB + 1, 2, none⟩) (by show _ ≤ XB + 1; omega) _).set (p := ⟨XB + 1, 3, none⟩) (by show _ ≤ XB + 1; omega) _).set (p := ⟨XB + 1, 4, none⟩) (by show _ ≤ XB + 1; omega) _
  refine ⟨kA, kc, by rw [HPD.out, HN.out], ?_, hnw _ _ _ _ _⟩
  rw [HPD.out]
  exact HR1.out.keep (hnw _ _ _ _ _)
end
end Go.Proofs.Ytgijkgngldfdiaa
