/- Messages: what the document decodes as a response, plainly. Helper. -/
import Derived.Test.YtnbcjjgilndlaaaRdRefR
import Derived.Test.YtnbcjjgilndlaaaRdRefS7
import Derived.Test.YtnbcjjgilndlaaaRdDocP
import Derived.Test.YtnbcjjgilndlaaaRdVars
namespace Go.Proofs.Ytnbcjjgilndlaaa
open Go.RowKit
set_option linter.unusedVariables false
set_option linter.unusedSimpArgs false
set_option maxRecDepth 100000
theorem encs7_any (w : World) (p : Rs) (A : Option Addr) (c : Nat) (hA : IntsAt w A p.vs) (hin : p.In) :
    Calls Try.prog 24 #[.agg (p.c A c).toArray] w (Txt7 w (encB p)) := by
  by_cases k1 : p.k = 1
  · exact enc7_1 w p A c k1 hA hin
  by_cases k2 : p.k = 2
  · exact enc7_2 w p A c k2 hA hin
  by_cases k3 : p.k = 3
  · exact enc7_3 w p A c k3 hA hin
  by_cases k4 : p.k = 4
  · exact enc7_4 w p A c k4 hA hin
  exact enc7_0 w p A c ⟨k1, k2, k3, k4⟩ hA hin
theorem mays7_dec (w : World) (p : Rs) (A : Option Addr) (c : Nat) (hA : IntsAt w A p.vs) (h : inS p ∨ (1 ≤ p.k ∧ p.k ≤ 5 ∧ 16 < p.er)) :
    Calls Try.prog 22 #[.agg (p.c A c).toArray] w fun e w' => e = .returned (.bool (mayS p)) ∧ Nw w w' := by
  rcases h with h | ⟨h1, h2, h3⟩
  · exact mays7_in w p A c hA h
  · rw [mayS_no (fun h => by have := h.2.2.2.1; omega)]
    exact mays7_er w p A c hA ⟨h1, h2⟩ h3
def rawS (k : Nat) (bs : List UInt8) : Rs :=
  if k = 1 ∧ bs.length = 13 then { Rs.zero with k := k, id := (beN ((bs.drop 0).take 4) : Int), er := (beN ((bs.drop 4).take 1) : Int), fl := (s64 (beN ((bs.drop 5).take 8))) }
  else if k = 3 ∧ bs.length = 27 then { Rs.zero with k := k, rT := (s64 (beN ((bs.drop 0).take 8))), rO := (beN ((bs.drop 8).take 1) : Int), rS := (s64 (beN ((bs.drop 9).take 8))), rp := (beN ((bs.drop 17).take 1) : Int), rn := (beN ((bs.drop 18).take 1) : Int), rv := (s64 (beN ((bs.drop 19).take 8))) }
  else if k = 4 ∧ bs.length = 31 then { Rs.zero with k := k, nu := (beN ((bs.drop 0).take 4) : Int), T := (s64 (beN ((bs.drop 4).take 8))), O := (beN ((bs.drop 12).take 1) : Int), S := (s64 (beN ((bs.drop 13).take 8))), tt := (beN ((bs.drop 21).take 1) : Int), kd := (beN ((bs.drop 22).take 1) : Int), da := (s64 (beN ((bs.drop 23).take 8))) }
  else if k = 5 ∧ bs.length = 1 then { Rs.zero with k := k, er := (beN ((bs.drop 0).take 1) : Int) }
  else if k = 2 ∧ 13 ≤ bs.length ∧ beN ((bs.drop 12).take 1) ≤ 8 ∧ bs.length = 13 + 8 * beN ((bs.drop 12).take 1) then { Rs.zero with k := k, id := (beN ((bs.drop 0).take 4) : Int), fl := s64 (beN ((bs.drop 4).take 8)), vs := nums (bs.drop 13) (beN ((bs.drop 12).take 1)) }
  else { Rs.zero with k := k }
/-- What the document decodes: the response, and the error. -/
def dec7S : List UInt8 → Rs × Int
  | [] => (Rs.zero, 12)
  | x :: bs => if x.toNat < 1 ∨ 5 < x.toNat then (Rs.zero, 12)
    else if mayS (rawS x.toNat bs) = true ∧ encB (rawS x.toNat bs) = x :: bs then (rawS x.toNat bs, 0) else (Rs.zero, 14)
theorem ints_setRow {w : World} {A : Option Addr} {l : List Int} {g : Nat} (h : IntsAt w A l) (hf : l = [] ∨ ∃ a, A = some a ∧ a.block ≠ g) (row : Array Value) : IntsAt (w.setRow g row) A l := by
  rcases hf with rfl | ⟨a, rfl, ha⟩
  · exact .inl rfl
  · rcases h with h | ⟨b, off, e, hc⟩
    · exact .inl h
    · injection e with e
      subst e
      have hh : (w.setRow g row).heap[b]? = w.heap[b]? := by
        simp only [World.setRow, Array.getElem?_modify]
        rw [if_neg (fun e => ha e.symm)]
      refine .inr ⟨b, off, rfl, fun j u hu => ?_⟩
      have h2 := hc j u hu
      unfold World.cell? at h2 ⊢
      rw [hh]
      exact h2
def DecS7 (w : World) (p : Rs × Int) (e : Ending) (w' : World) : Prop := ∃ A c, e = .returned (.tuple #[.agg (p.1.c A c).toArray, .int .i64 p.2]) ∧ IntsAt w' A p.1.vs ∧ Nw w w'
theorem dec7S_cons (x : UInt8) (bs : List UInt8) (hx : ¬ (x.toNat < 1 ∨ 5 < x.toNat)) : dec7S (x :: bs) = if mayS (rawS x.toNat bs) = true ∧ encB (rawS x.toNat bs) = x :: bs then (rawS x.toNat bs, 0) else (Rs.zero, 14) := by
  simp only [dec7S]
  rw [if_neg hx]
set_option maxHeartbeats 6400000 in
theorem at7_any (w : World) (b off n c : Nat) (l : List UInt8) (hb : BytesAt w (some ⟨b, off, none⟩) l) (hn : l.length = n) (h17 : 17 ≤ n) (hc : n ≤ c) :
    Calls Try.prog 34 #[.slice (some ⟨b, off, none⟩) n c] w fun e w' => e = .returned (.agg #[.int .i64 (s64 (beN (l.take 8))), .int .i64 (beN ((l.drop 8).take 1) : Int), .int .i64 (s64 (beN ((l.drop 9).take 8)))]) ∧ Nw w w' := by
  obtain ⟨iX0, hiX0⟩ : ∃ I : Int, (beN (l.take 8) : Int) = I := ⟨_, rfl⟩
  obtain ⟨X0, hX0⟩ : ∃ I : Int, s64 (beN (l.take 8)) = I := ⟨_, rfl⟩
  obtain ⟨iX9, hiX9⟩ : ∃ I : Int, (beN ((l.drop 9).take 8) : Int) = I := ⟨_, rfl⟩
  obtain ⟨X9, hX9⟩ : ∃ I : Int, s64 (beN ((l.drop 9).take 8)) = I := ⟨_, rfl⟩
  obtain ⟨X8, hX8⟩ : ∃ I : Int, (beN ((l.drop 8).take 1) : Int) = I := ⟨_, rfl⟩
  have e0 := wrap_s64 (l.take 8) (by simp; omega)
  have e9 := wrap_s64 ((l.drop 9).take 8) (by simp; omega)
  have e8 := wrap_byte ((l.drop 8).take 1) (by simp; omega)
  rw [hiX0, hX0] at e0
  rw [hiX9, hX9] at e9
  rw [hX8] at e8
  rw [hX0, hX8, hX9]
  obtain ⟨f0, g0⟩ := e0
  obtain ⟨f9, g9⟩ := e9
  have f8 := e8.1
  have g8 := e8.2.1
  obtain ⟨w1, hw1⟩ : ∃ w1, w.alloc (.cells #[.int .i64 0, .int .i64 0, .int .i64 0] 27) = w1 := ⟨_, rfl⟩
  have b1 : Blk w1 w.heap.size 27 #[.int .i64 0, .int .i64 0, .int .i64 0] := by rw [← hw1]; exact Blk.last w _ _ rfl
  have n1 : Nw w w1 := by rw [← hw1]; exact (Nw.refl w).alloc _
  have K0 := Lib.hid (fun (cc : Nat) => num_n w1.drew (some ⟨b, off, none⟩) cc 8 (l.take 8) iX0 (show BytesAt w1.drew _ _ from Rd.nw (hb.take 8) n1.drew) (by simp; omega) (by omega) hiX0)
  have hcut := hb.cut (n + 1) (k := 9) (by omega) (by omega)
  rw [if_neg (by omega)] at hcut
  simp only [Option.map, add_plain] at hcut
  have K9 := Lib.hid (fun (cc : Nat) => num_n w1.drew (some ⟨b, off + 9, none⟩) cc 8 ((l.drop 9).take 8) iX9 (show BytesAt w1.drew _ _ from Rd.nw (hcut.take 8) n1.drew) (by simp; omega) (by omega) hiX9)
  have c8 : w1.drew.cell? ⟨b, off + 8, none⟩ = some (.int .u8 X8) := by
    cases l with
    | nil => simp at hn; omega
    | cons y l =>
      rw [← hX8]
      have hl : l.length + 1 = n := by simpa using hn
      have := byte_cell hb 7 (by omega)
      exact n1.cell this
  have hs8 : (8 : Int) ≤ (c : Int) := by omega
  have hs17 : (17 : Int) ≤ (c : Int) := by omega
  have hq9 : ¬ (c : Int) = 9 := by omega
  have hr9 : ¬ c = 9 := by omega
  have hi8 : (8 : Int) < (n : Int) := by omega
  have hbl : b < w1.drew.heap.size := World.block_lt_of_cell? _ _ c8
  have HW1 := Lib.hid hw1
  have HMK := Lib.hid b1
  have N1 := Lib.hid n1
  clear hw1 b1 n1 hcut hb hiX0 hX0 hiX9 hX9 hX8 e8
  go_enter Try.func34, Try.ntmps34
  go_upto_region 1 with (fail)
  rw [HW1.out]
  refine wp_region_F (fun W => Nw w1 W ∧ W.cell? ⟨b, off + 8, none⟩ = some (.int .u8 X8)) [13] (by kernel_rfl) ?_
  have hS : Nw w1 w1.drew ∧ w1.drew.cell? ⟨b, off + 8, none⟩ = some (.int .u8 X8) := ⟨(Nw.refl w1).drew, c8⟩
  refine wpAnyF_freeT (i := 0) (v := ?_) rfl (by kernel_rfl) (by kernel_rfl) (by kernel_rfl) (by kernel_rfl) (by kernel_rfl) (fun _ _ _ h => h) (by rfl) ?_ hS ?_
  rotate_left
  · intro u
    go_simp
    try with_reducible rfl
  try simp only [List.getElem_toArray, List.getElem_cons_succ, List.getElem_cons_zero, Act.put, List.setIfInBounds_toArray, List.set_cons_zero, List.set_cons_succ]
  refine wpAnyF_freeT (i := 1) (v := ?_) rfl (by kernel_rfl) (by kernel_rfl) (by kernel_rfl) (by kernel_rfl) (by kernel_rfl) (fun _ _ _ h => h) (by rfl) ?_ hS ?_
  rotate_left
  · intro u
    go_simp
    try with_reducible rfl
  try simp only [List.getElem_toArray, List.getElem_cons_succ, List.getElem_cons_zero, Act.put, List.setIfInBounds_toArray, List.set_cons_zero, List.set_cons_succ]
  refine wpAnyF_freeT (i := 4) (v := ?_) rfl (by kernel_rfl) (by kernel_rfl) (by kernel_rfl) (by kernel_rfl) (by kernel_rfl) (fun _ _ _ h => h) (by rfl) ?_ hS ?_
  rotate_left
  · intro u
    go_simp
    try with_reducible rfl
  try simp only [List.getElem_toArray, List.getElem_cons_succ, List.getElem_cons_zero, Act.put, List.setIfInBounds_toArray, List.set_cons_zero, List.set_cons_succ]
  refine wpAnyF_freeT (i := 5) (v := ?_) rfl (by kernel_rfl) (by kernel_rfl) (by kernel_rfl) (by kernel_rfl) (by kernel_rfl) (fun _ _ _ h => h) (by rfl) ?_ hS ?_
  rotate_left
  · intro u
    go_simp
    try with_reducible rfl
  try simp only [List.getElem_toArray, List.getElem_cons_succ, List.getElem_cons_zero, Act.put, List.setIfInBounds_toArray, List.set_cons_zero, List.set_cons_succ]
  refine wpAnyF_takeT (i := 6) (v := ?_) rfl (by kernel_rfl) (by kernel_rfl) (by kernel_rfl) (by kernel_rfl) (by kernel_rfl) (by kernel_rfl) (fun _ _ _ h => h) (by rfl) ?_ hS ?_
  rotate_left
  · intro u hu
    have hu1 := hu.2
    go_simp
    try with_reducible rfl
  try simp only [List.getElem_toArray, List.getElem_cons_succ, List.getElem_cons_zero, Act.put, List.setIfInBounds_toArray, List.set_cons_zero, List.set_cons_succ]
  refine wpAnyF_freeT (i := 7) (v := ?_) rfl (by kernel_rfl) (by kernel_rfl) (by kernel_rfl) (by kernel_rfl) (by kernel_rfl) (fun _ _ _ h => h) (by rfl) ?_ hS ?_
  rotate_left
  · intro u
    go_simp
    try with_reducible rfl
  try simp only [List.getElem_toArray, List.getElem_cons_succ, List.getElem_cons_zero, Act.put, List.setIfInBounds_toArray, List.set_cons_zero, List.set_cons_succ]
  refine wpAnyF_freeT (i := 8) (v := ?_) rfl (by kernel_rfl) (by kernel_rfl) (by kernel_rfl) (by kernel_rfl) (by kernel_rfl) (fun _ _ _ h => h) (by rfl) ?_ hS ?_
  rotate_left
  · intro u
    go_simp
    try with_reducible rfl
  try simp only [List.getElem_toArray, List.getElem_cons_succ, List.getElem_cons_zero, Act.put, List.setIfInBounds_toArray, List.set_cons_zero, List.set_cons_succ]
  refine wpAnyF_freeT (i := 9) (v := ?_) rfl (by kernel_rfl) (by kernel_rfl) (by kernel_rfl) (by kernel_rfl) (by kernel_rfl) (fun _ _ _ h => h) (by rfl) ?_ hS ?_
  rotate_left
  · intro u
    go_simp
    try with_reducible rfl
  try simp only [List.getElem_toArray, List.getElem_cons_succ, List.getElem_cons_zero, Act.put, List.setIfInBounds_toArray, List.set_cons_zero, List.set_cons_succ]
  refine wpAnyF_step (i := 2) (by kernel_rfl) rfl (by rfl) fun K hK => ?_
  go_simp
  go_at_call 33
  refine (K0.out _).mono ?_
  rintro e w' ⟨rfl, hw⟩
  rw [hw]
  clear hw w'
  refine hK _ _ (.inr (hS)) ?_
  clear hK K
  try simp only [List.getElem_toArray, List.getElem_cons_succ, List.getElem_cons_zero, Act.put, List.setIfInBounds_toArray, List.set_cons_zero, List.set_cons_succ]
  refine wpAnyF_freeT (i := 3) (v := ?_) rfl (by kernel_rfl) (by kernel_rfl) (by kernel_rfl) (by kernel_rfl) (by kernel_rfl) (fun _ _ _ h => h) (by rfl) ?_ hS ?_
  rotate_left
  · intro u
    go_simp
    try with_reducible rfl
  try simp only [List.getElem_toArray, List.getElem_cons_succ, List.getElem_cons_zero, Act.put, List.setIfInBounds_toArray, List.set_cons_zero, List.set_cons_succ]
  refine wpAnyF_step (i := 10) (by kernel_rfl) rfl (by rfl) fun K hK => ?_
  go_simp
  go_at_call 33
  refine (K9.out _).mono ?_
  rintro e w' ⟨rfl, hw⟩
  rw [hw]
  clear hw w'
  refine hK _ _ (.inr (hS)) ?_
  clear hK K
  try simp only [List.getElem_toArray, List.getElem_cons_succ, List.getElem_cons_zero, Act.put, List.setIfInBounds_toArray, List.set_cons_zero, List.set_cons_succ]
  refine wpAnyF_freeT (i := 11) (v := ?_) rfl (by kernel_rfl) (by kernel_rfl) (by kernel_rfl) (by kernel_rfl) (by kernel_rfl) (fun _ _ _ h => h) (by rfl) ?_ hS ?_
  rotate_left
  · intro u
    go_simp
    try with_reducible rfl
  try simp only [List.getElem_toArray, List.getElem_cons_succ, List.getElem_cons_zero, Act.put, List.setIfInBounds_toArray, List.set_cons_zero, List.set_cons_succ]
  refine wpAnyF_freeT (i := 12) (v := ?_) rfl (by kernel_rfl) (by kernel_rfl) (by kernel_rfl) (by kernel_rfl) (by kernel_rfl) (fun _ _ _ h => h) (by rfl) ?_ hS ?_
  rotate_left
  · intro u
    go_simp
    try with_reducible rfl
  try simp only [List.getElem_toArray, List.getElem_cons_succ, List.getElem_cons_zero, Act.put, List.setIfInBounds_toArray, List.set_cons_zero, List.set_cons_succ]
  refine wpAnyF_step (i := 13) (by kernel_rfl) rfl (by rfl) fun K hK => ?_
  refine wp_store_mid 27 _ _ rfl w.heap.size 0 #[.int .i64 X0, .int .i64 X8, .int .i64 X9] rfl rfl (there_of HMK.out.drew _ _ (by simp)) (by kernel_rfl) (by simp [Value.oneCell']) ?_
  refine hK _ (w1.drew.setCells w.heap.size 0 [.int .i64 X0, .int .i64 X8, .int .i64 X9]) (.inl (by kernel_rfl)) ?_
  clear hK K
  try simp only [List.getElem_toArray, List.getElem_cons_succ, List.getElem_cons_zero, Act.put, List.setIfInBounds_toArray, List.set_cons_zero, List.set_cons_succ]
  refine wpAnyF_done (by kernel_rfl) ?_ _
  obtain ⟨w3, hw3⟩ : ∃ W, w1.drew.setCells w.heap.size 0 [.int .i64 X0, .int .i64 X8, .int .i64 X9] = W := ⟨_, rfl⟩
  rw [hw3]
  have HM3 := Lib.hid (show Blk w3 w.heap.size 27 #[.int .i64 X0, .int .i64 X8, .int .i64 X9] by rw [← hw3]; exact ((HMK.out.drew.set_ 0 _).set_ 1 _).set_ 2 _)
  have N3 := Lib.hid (show Nw w w3 by rw [← hw3]; exact (((N1.out.drew).set (Nat.le_refl _) _).set (Nat.le_refl _) _).set (Nat.le_refl _) _)
  clear hw3
  go_wp2_with fail
  exact bodyPost_ret (results_cell_row rfl _ _ w.heap.size 27 #[.int .i64 X0, .int .i64 X8, .int .i64 X9] (0, 0) _ rfl HM3.out Try.underlying27 rfl (by kernel_rfl)) rfl ⟨rfl, N3.out⟩
end Go.Proofs.Ytnbcjjgilndlaaa
