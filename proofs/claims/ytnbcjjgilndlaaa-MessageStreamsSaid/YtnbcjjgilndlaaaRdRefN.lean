/- Messages: the document's bytes of a request. Helper. -/
import Derived.Test.YtnbcjjgilndlaaaRdRefA
import Derived.Test.YtnbcjjgilndlaaaRdDecQ
import Derived.Test.YtnbcjjgilndlaaaRdReg
import Derived.Test.YtnbcjjgilndlaaaRdEncQ
namespace Go.Proofs.Ytnbcjjgilndlaaa
open Go.RowKit
set_option linter.unusedVariables false
set_option linter.unusedSimpArgs false
set_option maxRecDepth 100000
set_option maxHeartbeats 6400000
theorem ask7_any (w : World) (q : Rq) (A : Option Addr) (c : Nat) (hA : BytesAt w A q.md) (hin : q.In) :
    Calls Try.prog 38 #[.agg (q.c A c).toArray] w (Txt7 w (askB q)) := by
  by_cases k1 : q.k = 1
  · exact ask7_1 w q A c k1 hA hin
  by_cases k2 : q.k = 2
  · exact ask7_2 w q A c k2 hA hin
  by_cases k3 : q.k = 3
  · exact ask7_3 w q A c k3 hA hin
  by_cases k4 : q.k = 4
  · exact ask7_4 w q A c k4 hA hin
  by_cases k5 : q.k = 5
  · exact ask7_5 w q A c k5 hA hin
  by_cases k6 : q.k = 6
  · exact ask7_6 w q A c k6 hA hin
  by_cases k10 : q.k = 10
  · exact ask7_10 w q A c k10 hA hin
  exact ask7_0 w q A c ⟨k1, k2, k3, k4, k5, k6, k10⟩ hA hin
theorem askB_len (q : Rq) (h : q.md.length ≤ 100000) : (askB q).length ≤ 100100 := by
  unfold askB
  repeat' split
  all_goals simp [beW_length]
  all_goals omega
theorem own_new (w : World) (v : Value) : Own (w.alloc (.cells #[v] 5)) 5 1 (.slice (some ⟨w.heap.size, 0, none⟩) 1 1) 1 [v] (some w.heap.size) :=
  ⟨rfl, some ⟨w.heap.size, 0, none⟩, 1, rfl, Nat.le_refl _, by simp [maxLen], .inr ⟨w.heap.size, 0, #[v], rfl, rfl, Blk.last w _ _ rfl, by simp, by simp⟩⟩
theorem own_txt {w w9 : World} {A9 : Option Addr} {c9 : Nat} {B : List UInt8} {x0 : Int} {b9 : Option Nat} (h : Own w9 5 1 (.slice A9 (1 + B.length) c9) (1 + B.length) ([.int .u8 x0] ++ bcells B) b9) (hx : bcells (beW x0 1) = [.int .u8 x0]) (n : Nw w w9) : Txt7 w (beW x0 1 ++ B) (.returned (.slice A9 (1 + B.length) c9)) w9 := by
  obtain ⟨_, _, e2, hrd, hnc, _⟩ := h.rd
  injection e2 with e3 _ e4
  subst e3 e4
  refine ⟨_, _, by rw [List.length_append, beW_length], ?_, by rw [List.length_append, beW_length]; exact hnc, n⟩
  show Rd w9 _ (bcells (beW x0 1 ++ B))
  rw [bcells_append, hx]
  exact hrd
theorem encr7_any (w : World) (q : Rq) (A : Option Addr) (c : Nat) (hA : BytesAt w A q.md) (hin : q.In) (hk : 1 ≤ q.k ∧ q.k ≤ 12) :
    Calls Try.prog 20 #[.agg (q.c A c).toArray] w (Txt7 w (beW q.k 1 ++ askB q)) := by
  obtain ⟨i0, hi0, hz0, hz1, hz2⟩ := info_parts infoU8
  have HL1 := Lib.hid hi0
  have HL2 := Lib.hid hz0
  have HL3 := Lib.hid hz1
  have HL4 := Lib.hid hz2
  have KA := Lib.hid (fun W (hW : Nw w W) => ask7_any W q A c (Rd.nw hA hW) hin)
  have HB := Lib.hid (askB_len q hin.md)
  obtain ⟨B, hB⟩ : ∃ B, askB q = B := ⟨_, rfl⟩
  rw [hB] at KA HB ⊢
  clear hB hi0 hz0 hz1 hz2
  obtain ⟨x0, x1, x2, x3, x4, x5, x6, x7, x8, x9, x10, x11, x12, x13, x14, x15, x16⟩ := q
  dsimp only at hA hin hk KA HB ⊢
  simp only [Rq.c] at KA ⊢
  obtain ⟨w1, hw1⟩ : ∃ w1, w.alloc (.cells #[.int .i64 x0, .int .u32 x1, .int .i64 x2, .slice A x3.length c, .int .i64 x4, .int .i64 x5, .int .i64 x6, .int .i64 x7, .int .i64 x8, .int .i64 x9, .int .u32 x10, .int .i64 x11, .int .i64 x12, .int .i64 x13, .int .i64 x14, .int .i64 x15, .int .i64 x16] 33) = w1 := ⟨_, rfl⟩
  have b1 : Blk w1 w.heap.size 33 #[.int .i64 x0, .int .u32 x1, .int .i64 x2, .slice A x3.length c, .int .i64 x4, .int .i64 x5, .int .i64 x6, .int .i64 x7, .int .i64 x8, .int .i64 x9, .int .u32 x10, .int .i64 x11, .int .i64 x12, .int .i64 x13, .int .i64 x14, .int .i64 x15, .int .i64 x16] := by rw [← hw1]; exact Blk.last w _ _ rfl
  have n1 : Nw w w1 := by rw [← hw1]; exact (Nw.refl w).alloc _
  have HW1 := Lib.hid hw1
  have B1 := Lib.hid b1
  have N1 := Lib.hid n1
  obtain ⟨d, hd⟩ := stRq
  have HD := Lib.hid hd
  have HI := Lib.hid (show (Try.prog.info? 33).map (·.size) = some (#[.int .i64 x0, .int .u32 x1, .int .i64 x2, .slice A x3.length c, .int .i64 x4, .int .i64 x5, .int .i64 x6, .int .i64 x7, .int .i64 x8, .int .i64 x9, .int .u32 x10, .int .i64 x11, .int .i64 x12, .int .i64 x13, .int .i64 x14, .int .i64 x15, .int .i64 x16] : Array Value).size by kernel_rfl)
  have hx0 : IntKind.u8.wrap x0 = x0 := by rw [IntKind.wrap_u8]; omega
  have HX := Lib.hid (show bcells (beW x0 1) = [.int .u8 x0] by simp [bcells, beW, byteOf_cell, hx0])
  clear hw1 b1 n1 hd hA hin hk
  go_enter Try.func20, Try.ntmps20
  go_upto_region 1 with (fail)
  rw [HW1.out]
  have HSW := Lib.hid (fun W (hW : Nw w1 W) => (⟨hW, B1.out.below hW B1.out.lt⟩ : Nw w1 W ∧ Blk W w.heap.size 33 #[.int .i64 x0, .int .u32 x1, .int .i64 x2, .slice A x3.length c, .int .i64 x4, .int .i64 x5, .int .i64 x6, .int .i64 x7, .int .i64 x8, .int .i64 x9, .int .u32 x10, .int .i64 x11, .int .i64 x12, .int .i64 x13, .int .i64 x14, .int .i64 x15, .int .i64 x16]))
  refine wp_region_F (fun W => Nw w1 W ∧ Blk W w.heap.size 33 #[.int .i64 x0, .int .u32 x1, .int .i64 x2, .slice A x3.length c, .int .i64 x4, .int .i64 x5, .int .i64 x6, .int .i64 x7, .int .i64 x8, .int .i64 x9, .int .u32 x10, .int .i64 x11, .int .i64 x12, .int .i64 x13, .int .i64 x14, .int .i64 x15, .int .i64 x16]) [7] (by kernel_rfl) ?_
  have hS := HSW.out w1.drew (Nw.refl w1).drew
  refine wpAnyF_freeT (i := 0) (v := ?_) rfl (by kernel_rfl) (by kernel_rfl) (by kernel_rfl) (by kernel_rfl) (by kernel_rfl) (fun _ _ _ h => h) (by rfl) ?_ hS ?_
  rotate_left
  · intro u
    go_simp
    try with_reducible rfl
  try simp only [List.getElem_toArray, List.getElem_cons_succ, List.getElem_cons_zero, Act.put, List.setIfInBounds_toArray, List.set_cons_zero, List.set_cons_succ]
  refine wpAnyF_takeT (i := 1) (v := ?_) rfl (by kernel_rfl) (by kernel_rfl) (by kernel_rfl) (by kernel_rfl) (by kernel_rfl) (by kernel_rfl) (fun _ _ _ h => h) (by rfl) ?_ hS ?_
  rotate_left
  · intro u hu
    have hu1 : u.cell? ⟨w.heap.size, 0, none⟩ = some (.int .i64 x0) := (hu.2.cell 0).trans rfl
    go_simp
    try with_reducible rfl
  try simp only [List.getElem_toArray, List.getElem_cons_succ, List.getElem_cons_zero, Act.put, List.setIfInBounds_toArray, List.set_cons_zero, List.set_cons_succ]
  refine wpAnyF_freeT (i := 2) (v := ?_) rfl (by kernel_rfl) (by kernel_rfl) (by kernel_rfl) (by kernel_rfl) (by kernel_rfl) (fun _ _ _ h => h) (by rfl) ?_ hS ?_
  rotate_left
  · intro u
    go_simp
    try with_reducible rfl
  try simp only [List.getElem_toArray, List.getElem_cons_succ, List.getElem_cons_zero, Act.put, List.setIfInBounds_toArray, List.set_cons_zero, List.set_cons_succ]
  refine wpAnyF_takeT (i := 4) (v := ?_) rfl (by kernel_rfl) (by kernel_rfl) (by kernel_rfl) (by kernel_rfl) (by kernel_rfl) (by kernel_rfl) (fun _ _ _ h => h) (by rfl) ?_ hS ?_
  rotate_left
  · intro u hu
    try simp only [List.getElem_toArray, List.getElem_cons_succ, List.getElem_cons_zero]
    refine Eq.trans (exec_load_row 33 _ rfl w.heap.size rfl 33 #[.int .i64 x0, .int .u32 x1, .int .i64 x2, .slice A x3.length c, .int .i64 x4, .int .i64 x5, .int .i64 x6, .int .i64 x7, .int .i64 x8, .int .i64 x9, .int .u32 x10, .int .i64 x11, .int .i64 x12, .int .i64 x13, .int .i64 x14, .int .i64 x15, .int .i64 x16] (0, 0) (.struct d) hu.2 HD.out rfl HI.out) ?_
    with_reducible rfl
  try simp only [List.getElem_toArray, List.getElem_cons_succ, List.getElem_cons_zero, Act.put, List.setIfInBounds_toArray, List.set_cons_zero, List.set_cons_succ]
  refine wpAnyF_two (i := 3) (j := 5) (by kernel_rfl) rfl (by rfl) rfl (by rfl) (fun K hK => ?_) (fun K hK => ?_)
  · go_simp
    refine hK _ _ (.inr (HSW.out _ (by repeat (first | exact Nw.refl w1 | assumption | refine Nw.drew ?_ | refine Nw.alloc ?_ _)))) ?_
    clear hK K
    try simp only [List.getElem_toArray, List.getElem_cons_succ, List.getElem_cons_zero, Act.put, List.setIfInBounds_toArray, List.set_cons_zero, List.set_cons_succ]
    refine wpAnyF_step (i := 5) (by kernel_rfl) rfl (by rfl) fun K hK => ?_
    go_simp
    go_at_call 38
    refine (KA.out (w1.drew.alloc (.cells #[.int .u8 x0] 5)) (Nw.trans N1.out (by repeat (first | exact Nw.refl w1 | assumption | refine Nw.drew ?_ | refine Nw.alloc ?_ _)))).mono ?_
    rintro e w8 ⟨A8, c8, rfl, hb8, hc8, n8⟩
    have i8 : Nw w1 w8 := Nw.step (by repeat (first | exact Nw.refl w1 | assumption | refine Nw.drew ?_ | refine Nw.alloc ?_ _)) n8
    have HB8 := Lib.hid hb8
    have N8 := Lib.hid n8
    clear hb8 hc8 n8
    have hS := HSW.out w8 i8
    refine hK _ _ (.inr (HSW.out w8 i8)) ?_
    clear hK K
    try simp only [List.getElem_toArray, List.getElem_cons_succ, List.getElem_cons_zero, Act.put, List.setIfInBounds_toArray, List.set_cons_zero, List.set_cons_succ]
    refine wpAnyF_step (i := 6) (by kernel_rfl) rfl (by rfl) fun K hK => ?_
    refine wp_append_at w8 _ _ 22 rfl 5 i0 _ 1 1 Try.underlying22 HL1.out HL2.out HL3.out HL4.out rfl (by omega) _ 1 [.int .u8 x0] (some w1.heap.size) rfl (((own_new w1.drew (.int .u8 x0)).kept fun g hg => by injection hg with hg; rw [← hg]; exact N8.out.block _ (by simp))) _ B.length c8 (bcells B) rfl (by rw [bcells_length]; omega) (HB8.out) (bcells_one B) (by have := HB.out; simp only [maxLen]; omega) (by have := HB.out; omega) ?_
    intro A9 c9 w9 b9 hown hchg hat
    have i9 : Nw w1 w9 := Below.trans i8 (hchg.below (fun k hk hq => by injection hq with hq; have := i8.size; omega) i8.size)
    have HO9 := Lib.hid hown
    clear hown hchg hat
    have hS := HSW.out w9 i9
    refine hK _ _ (.inr (HSW.out w9 i9)) ?_
    clear hK K
    try simp only [List.getElem_toArray, List.getElem_cons_succ, List.getElem_cons_zero, Act.put, List.setIfInBounds_toArray, List.set_cons_zero, List.set_cons_succ]
    refine wpAnyF_step (i := 7) (by kernel_rfl) rfl (by rfl) fun K hK => ?_
    go_simp
    refine hK _ _ (.inl (by kernel_rfl)) ?_
    clear hK K
    try simp only [List.getElem_toArray, List.getElem_cons_succ, List.getElem_cons_zero, Act.put, List.setIfInBounds_toArray, List.set_cons_zero, List.set_cons_succ]
    refine wpAnyF_done (by kernel_rfl) ?_ _
    go_wp2_with fail
    go_ret
    exact own_txt HO9.out HX.out (Nw.trans N1.out i9)
  · go_simp
    go_at_call 38
    refine (KA.out w1.drew (Nw.trans N1.out (by repeat (first | exact Nw.refl w1 | assumption | refine Nw.drew ?_ | refine Nw.alloc ?_ _)))).mono ?_
    rintro e w8 ⟨A8, c8, rfl, hb8, hc8, n8⟩
    have i8 : Nw w1 w8 := Nw.step (by repeat (first | exact Nw.refl w1 | assumption | refine Nw.drew ?_ | refine Nw.alloc ?_ _)) n8
    have HB8 := Lib.hid hb8
    have N8 := Lib.hid n8
    clear hb8 hc8 n8
    refine hK _ _ (.inr (HSW.out w8 i8)) ?_
    clear hK K
    try simp only [List.getElem_toArray, List.getElem_cons_succ, List.getElem_cons_zero, Act.put, List.setIfInBounds_toArray, List.set_cons_zero, List.set_cons_succ]
    refine wpAnyF_step (i := 3) (by kernel_rfl) rfl (by rfl) fun K hK => ?_
    go_simp
    refine hK _ _ (.inr (HSW.out _ (i8.alloc _))) ?_
    clear hK K
    try simp only [List.getElem_toArray, List.getElem_cons_succ, List.getElem_cons_zero, Act.put, List.setIfInBounds_toArray, List.set_cons_zero, List.set_cons_succ]
    refine wpAnyF_step (i := 6) (by kernel_rfl) rfl (by rfl) fun K hK => ?_
    refine wp_append_at (w8.alloc (.cells #[.int .u8 x0] 5)) _ _ 22 rfl 5 i0 _ 1 1 Try.underlying22 HL1.out HL2.out HL3.out HL4.out rfl (by omega) _ 1 [.int .u8 x0] (some w8.heap.size) rfl (own_new w8 (.int .u8 x0)) _ B.length c8 (bcells B) rfl (by rw [bcells_length]; omega) (Rd.nw HB8.out ((Nw.refl w8).alloc _)) (bcells_one B) (by have := HB.out; simp only [maxLen]; omega) (by have := HB.out; omega) ?_
    intro A9 c9 w9 b9 hown hchg hat
    have i9 : Nw w1 w9 := Below.trans (i8.alloc _) (hchg.below (fun k hk hq => by injection hq with hq; have := i8.size; omega) (i8.alloc _).size)
    have HO9 := Lib.hid hown
    clear hown hchg hat
    have hS := HSW.out w9 i9
    refine hK _ _ (.inr (HSW.out w9 i9)) ?_
    clear hK K
    try simp only [List.getElem_toArray, List.getElem_cons_succ, List.getElem_cons_zero, Act.put, List.setIfInBounds_toArray, List.set_cons_zero, List.set_cons_succ]
    refine wpAnyF_step (i := 7) (by kernel_rfl) rfl (by rfl) fun K hK => ?_
    go_simp
    refine hK _ _ (.inl (by kernel_rfl)) ?_
    clear hK K
    try simp only [List.getElem_toArray, List.getElem_cons_succ, List.getElem_cons_zero, Act.put, List.setIfInBounds_toArray, List.set_cons_zero, List.set_cons_succ]
    refine wpAnyF_done (by kernel_rfl) ?_ _
    go_wp2_with fail
    go_ret
    exact own_txt HO9.out HX.out (Nw.trans N1.out i9)
end Go.Proofs.Ytnbcjjgilndlaaa
