/- Messages: what the document decodes as a request, at any bytes. Helper. -/
import Derived.Test.YtnbcjjgilndlaaaRdDocP
namespace Go.Proofs.Ytnbcjjgilndlaaa
open Go.RowKit
set_option linter.unusedVariables false
set_option linter.unusedSimpArgs false
set_option maxRecDepth 100000
set_option maxHeartbeats 6400000
/-- A request's cells. -/
def rwQ (q : Rq) : Array Value := (q.c none 0).toArray
/-- Where the switch ends: the request that was put together. -/
structure AtEnd (w wx : World) (M : Nat) (Q : Rq) (A : Option Addr) (c : Nat) (k : Nat) (bs : List UInt8) : Prop where
  m : Blk wx M 33 (Q.c A c).toArray
  r : Blk wx w.heap.size 33 #[.int .i64 0, .int .u32 0, .int .i64 0, .slice none 0 0, .int .i64 0, .int .i64 0, .int .i64 0, .int .i64 0, .int .i64 0, .int .i64 0, .int .u32 0, .int .i64 0, .int .i64 0, .int .i64 0, .int .i64 0, .int .i64 0, .int .i64 0]
  z : Blk wx (w.heap.size + 1) 33 #[.int .i64 0, .int .u32 0, .int .i64 0, .slice none 0 0, .int .i64 0, .int .i64 0, .int .i64 0, .int .i64 0, .int .i64 0, .int .i64 0, .int .u32 0, .int .i64 0, .int .i64 0, .int .i64 0, .int .i64 0, .int .i64 0, .int .i64 0]
  n : Nw w wx
  a : BytesAt wx A Q.md
  f : Q.md = [] ∨ ∃ a, A = some a ∧ a.block ≠ w.heap.size
  i : inQ Q
  b : Q.In
  q : rawQ k bs = Q
theorem AtEnd.of {w W : World} {M b k : Nat} {Q : Rq} {bs : List UInt8} (h : Hid (Doc 33 #[.int .i64 0, .int .u32 0, .int .i64 0, .slice none 0 0, .int .i64 0, .int .i64 0, .int .i64 0, .int .i64 0, .int .i64 0, .int .i64 0, .int .u32 0, .int .i64 0, .int .i64 0, .int .i64 0, .int .i64 0, .int .i64 0, .int .i64 0] w W M b (rwQ Q))) (hm : Q.md = []) (e : rawQ k bs = Q)
    (hi : inQ Q := by refine ⟨?_, ?_, ⟨?_, ?_⟩, ⟨?_, ?_⟩, ⟨?_, ?_⟩, ⟨?_, ?_⟩, ?_, ?_, ⟨?_, ?_⟩, ?_, ?_⟩ <;> dsimp only <;> omega)
    (hb : Q.In := by refine ⟨⟨?_, ?_⟩, ⟨?_, ?_⟩, ?_⟩ <;> dsimp only <;> first | omega | (simp; try omega)) : AtEnd w W M Q none 0 k bs :=
  ⟨h.out.m, h.out.r, h.out.z, h.out.n, .inl (by rw [hm]; rfl), .inl hm, hi, hb, e⟩
theorem doc_any (w : World) (A : Option Addr) (c m : Nat) (x : UInt8) (bs : List UInt8) (hb : BytesAt w A (x :: bs)) (hn : bs.length = m + 4) (hc : m + 5 ≤ c) (hm : m ≤ 90000) (hx : ¬ (x.toNat < 1 ∨ 12 < x.toNat)) :
    Calls Try.prog 11 #[.slice A (m + 5) c] w (Dec7 w (dec7Q (x :: bs))) := by
  obtain ⟨kx, hkx⟩ : ∃ k : Nat, x.toNat = k := ⟨_, rfl⟩
  rw [hkx] at hx
  have HKX := Lib.hid hkx
  have HXX := Lib.hid hx
  have HQ5 := Lib.hid hm
  clear hkx hx hm
  obtain ⟨b, off, rfl, hblt, c0⟩ := hb.get (k := 0) (by simp)
  simp only [List.getElem_cons_zero, Nat.add_zero] at c0
  rw [HKX.out] at c0
  obtain ⟨w1, hw1⟩ : ∃ w1, ((w.alloc (.cells #[.int .i64 0, .int .u32 0, .int .i64 0, .slice none 0 0, .int .i64 0, .int .i64 0, .int .i64 0, .int .i64 0, .int .i64 0, .int .i64 0, .int .u32 0, .int .i64 0, .int .i64 0, .int .i64 0, .int .i64 0, .int .i64 0, .int .i64 0] 33)).alloc (.cells #[.int .i64 0, .int .u32 0, .int .i64 0, .slice none 0 0, .int .i64 0, .int .i64 0, .int .i64 0, .int .i64 0, .int .i64 0, .int .i64 0, .int .u32 0, .int .i64 0, .int .i64 0, .int .i64 0, .int .i64 0, .int .i64 0, .int .i64 0] 33)).alloc (.cells #[.int .i64 (kx : Int), .int .u32 0, .int .i64 0, .slice none 0 0, .int .i64 0, .int .i64 0, .int .i64 0, .int .i64 0, .int .i64 0, .int .i64 0, .int .u32 0, .int .i64 0, .int .i64 0, .int .i64 0, .int .i64 0, .int .i64 0, .int .i64 0] 33) = w1 := ⟨_, rfl⟩
  have hR : Blk w1 w.heap.size 33 #[.int .i64 0, .int .u32 0, .int .i64 0, .slice none 0 0, .int .i64 0, .int .i64 0, .int .i64 0, .int .i64 0, .int .i64 0, .int .i64 0, .int .u32 0, .int .i64 0, .int .i64 0, .int .i64 0, .int .i64 0, .int .i64 0, .int .i64 0] := by rw [← hw1]; exact ((Blk.last w _ _ rfl).alloc _).alloc _
  have hN : Blk w1 (w.heap.size + 1) 33 #[.int .i64 0, .int .u32 0, .int .i64 0, .slice none 0 0, .int .i64 0, .int .i64 0, .int .i64 0, .int .i64 0, .int .i64 0, .int .i64 0, .int .u32 0, .int .i64 0, .int .i64 0, .int .i64 0, .int .i64 0, .int .i64 0, .int .i64 0] := by rw [← hw1]; exact (Blk.last _ _ _ (by simp)).alloc _
  have hM : Blk w1 (w.heap.size + 2) 33 #[.int .i64 (kx : Int), .int .u32 0, .int .i64 0, .slice none 0 0, .int .i64 0, .int .i64 0, .int .i64 0, .int .i64 0, .int .i64 0, .int .i64 0, .int .u32 0, .int .i64 0, .int .i64 0, .int .i64 0, .int .i64 0, .int .i64 0, .int .i64 0] := by rw [← hw1]; exact Blk.last _ _ _ (by simp)
  have n1 : Nw w w1 := by rw [← hw1]; exact (((Nw.refl w).alloc _).alloc _).alloc _
  have HW1 := Lib.hid hw1
  have HR := Lib.hid hR
  have HN := Lib.hid hN
  have HM := Lib.hid hM
  have N1 := Lib.hid n1
  have HB := Lib.hid hb
  have HL := Lib.hid (And.intro hn hc)
  obtain ⟨d, hd⟩ := stRq
  have HD := Lib.hid hd
  have HJ := Lib.hid (show (Try.prog.info? 33).map (·.size) = some (#[.int .i64 0, .int .u32 0, .int .i64 0, .slice none 0 0, .int .i64 0, .int .i64 0, .int .i64 0, .int .i64 0, .int .i64 0, .int .i64 0, .int .u32 0, .int .i64 0, .int .i64 0, .int .i64 0, .int .i64 0, .int .i64 0, .int .i64 0] : Array Value).size by kernel_rfl)
  have HK := Lib.hid (show (Try.prog.info? 33).map (·.size) = some (#[.int .i64 (kx : Int), .int .u32 0, .int .i64 0, .slice none 0 0, .int .i64 0, .int .i64 0, .int .i64 0, .int .i64 0, .int .i64 0, .int .i64 0, .int .u32 0, .int .i64 0, .int .i64 0, .int .i64 0, .int .i64 0, .int .i64 0, .int .i64 0] : Array Value).size by kernel_rfl)
  have H2 := Lib.hid (show (#[.int .i64 0, .int .u32 0, .int .i64 0, .slice none 0 0, .int .i64 0, .int .i64 0, .int .i64 0, .int .i64 0, .int .i64 0, .int .i64 0, .int .u32 0, .int .i64 0, .int .i64 0, .int .i64 0, .int .i64 0, .int .i64 0, .int .i64 0] : Array Value).all (·.oneCell') = true by simp [Value.oneCell'])
  have H3 := Lib.hid (show (#[.int .i64 (kx : Int), .int .u32 0, .int .i64 0, .slice none 0 0, .int .i64 0, .int .i64 0, .int .i64 0, .int .i64 0, .int .i64 0, .int .i64 0, .int .u32 0, .int .i64 0, .int .i64 0, .int .i64 0, .int .i64 0, .int .i64 0, .int .i64 0] : Array Value).all (·.oneCell') = true by simp [Value.oneCell'])
  clear hw1 hR hN hM n1 hb hd
  have hc5 : (5 : Int) ≤ (c : Int) := by have := HL.out.2; omega
  have hc1 : ¬ (c : Int) = 1 := by have := HL.out.2; omega
  have hmc : (m : Int) + 5 ≤ (c : Int) := by have := HL.out.2; omega
  have hm0 : ((m : Int) + 5 == 0) = false := by simp; omega
  have hm1 : ¬ ((m : Int) + 5 < 5) := by omega
  have hm2 : (0 : Int) < (m : Int) + 5 := by omega
  have j7 : ¬ (kx : Int) < 1 := by have := HXX.out; omega
  have j8 : ¬ (12 : Int) < (kx : Int) := by have := HXX.out; omega
  have j9 : IntKind.i64.wrap (kx : Int) = (kx : Int) := by have := HXX.out; rw [IntKind.wrap_i64]; omega
  have jw : wrap64 (kx : Int) = (kx : Int) := by have := HXX.out; unfold wrap64; omega
  obtain ⟨D, hDD⟩ : ∃ D, dec7Q (x :: bs) = D := ⟨_, rfl⟩
  rw [hDD]
  have HDD := Lib.hid hDD
  clear hDD
  go_enter Try.func11, Try.ntmps11
  go_upto_region 2 with (refine wpList_store_row rfl 33 _ _ rfl (w.heap.size + 1) #[.int .i64 0, .int .u32 0, .int .i64 0, .slice none 0 0, .int .i64 0, .int .i64 0, .int .i64 0, .int .i64 0, .int .i64 0, .int .i64 0, .int .u32 0, .int .i64 0, .int .i64 0, .int .i64 0, .int .i64 0, .int .i64 0, .int .i64 0] rfl rfl 33 _ (heap_last _ _ (by simp)) HJ.out rfl H2.out ?_; rw [setRow_last _ _ _ _ (by simp)])
  go_upto_region 4 with (fail)
  go_upto_region 5 with (refine wpList_store_row rfl 33 _ _ rfl (w.heap.size + 2) #[.int .i64 0, .int .u32 0, .int .i64 0, .slice none 0 0, .int .i64 0, .int .i64 0, .int .i64 0, .int .i64 0, .int .i64 0, .int .i64 0, .int .u32 0, .int .i64 0, .int .i64 0, .int .i64 0, .int .i64 0, .int .i64 0, .int .i64 0] rfl rfl 33 _ (heap_last _ _ (by simp)) HK.out rfl H3.out ?_; rw [setRow_last _ _ _ _ (by simp)])
  obtain ⟨M, hMe⟩ : ∃ M, w.heap.size + 1 + 1 = M := ⟨_, rfl⟩
  rw [HW1.out, hMe]
  have S1 := Lib.hid (show Doc 33 #[.int .i64 0, .int .u32 0, .int .i64 0, .slice none 0 0, .int .i64 0, .int .i64 0, .int .i64 0, .int .i64 0, .int .i64 0, .int .i64 0, .int .u32 0, .int .i64 0, .int .i64 0, .int .i64 0, .int .i64 0, .int .i64 0, .int .i64 0] w w1 M b (rwQ ⟨kx, 0, 0, [], 0, 0, 0, 0, 0, 0, 0, 0, 0, 0, 0, 0, 0⟩) from ⟨by rw [← hMe]; exact HM.out, HR.out, HN.out, N1.out, Nat.lt_of_lt_of_le hblt N1.out.size⟩)
  have HME := Lib.hid hMe
  clear hMe HM HR HN HW1 c0
  obtain ⟨I0, KN0, hw0, HI0R, HI0⟩ := val4 HB 0 1 rfl (by have := HL.out; omega)
  rw [List.drop_zero] at HI0
  go_upto_region 7 with (fail)
  obtain ⟨v1, z1⟩ := Doc.at S1 1 (.int .u32 0) rfl
  go_wp2_with fail
  refine (KN0.out w1 _ S1.out.n).mono ?_
  rintro e w' ⟨rfl, hw⟩
  rw [hw]
  clear hw w'
  go_upto_region 8 with (fail)
  obtain ⟨w2, hw2, S2, hb2, u0⟩ := Doc.set S1 HME 1 (.int .u32 I0) (rwQ ⟨kx, I0, 0, [], 0, 0, 0, 0, 0, 0, 0, 0, 0, 0, 0, 0, 0⟩) kx rfl rfl
  rw [hw2]
  clear hw2
  clear v1 z1 hw0
  have HBLT := Lib.hid hblt
  go_cut [6] from 38 to 40 (fun s6 wx => ∃ (o6 : Nat), s6 = .slice (some ⟨b, o6, none⟩) m (c - 5) ∧ Hid (wx = w2 ∧ (c ≠ 5 → o6 = off + 5)))
  case first =>
    by_cases h5 : c = 5
    · subst h5
      as_aux_lemma =>
        have hm0 : m = 0 := by have := HL.out.2; omega
        go_wp2_with fail
        go_meet
        exact ⟨off, by subst hm0; rfl, Lib.hid ⟨rfl, fun h => absurd rfl h⟩⟩
    · have h6 : ¬ (c : Int) = 5 := by omega
      as_aux_lemma =>
        go_wp2_with fail
        go_meet
        exact ⟨off + 5, rfl, Lib.hid ⟨rfl, fun _ => rfl⟩⟩
  case rest =>
    obtain ⟨o6, rfl, HO6⟩ := hcut
    rw [HO6.out.1]
    clear j7 j8 j9 jw
    go_upto_block 0 with (fail)
    go_cut [] from 40 to 169 (fun wx => ∃ (Q : Rq) (A' : Option Addr) (c' : Nat), Hid (AtEnd w wx M Q A' c' kx bs))
    case first =>
      by_cases k1 : kx = 1
      · subst k1
        by_cases hl : m = 1
        · subst hl
          have h5 : c ≠ 5 := by have := HL.out.2; omega
          obtain rfl := HO6.out.2 h5
          clear h5
          as_aux_lemma =>
            obtain ⟨X2, cX2, fX2, gX2, EX2, HX2⟩ := val1 HB S2.out.n 4 5 rfl (by have := HL.out; omega)
            go_upto_region 10 with (fail)
            obtain ⟨v2, z2⟩ := Doc.at S2 2 (.int .i64 0) rfl
            go_wp2_with fail
            go_meet
            obtain ⟨w3, hw3, S3, hb3, u0⟩ := Doc.set S2 HME 2 (.int .i64 X2) (rwQ ⟨1, I0, X2, [], 0, 0, 0, 0, 0, 0, 0, 0, 0, 0, 0, 0, 0⟩) 1 rfl rfl
            rw [hw3]
            clear hw3
            have := HI0R.out; have := EX2.out
            exact ⟨_, none, 0, Lib.hid (AtEnd.of S3 rfl (by simp [rawQ, Rq.zero, HL.out.1, HI0.out, HX2.out]))⟩
        · have jl : ((m : Int) == 1) = false := by simp; omega
          have HWL := Lib.hid hl
          as_aux_lemma =>
            go_wp2_with fail
            go_meet
            have h := HWL.out
            have h1 := HL.out.1
            have := HI0R.out
            exact ⟨_, none, 0, Lib.hid (AtEnd.of S2 rfl (by simp [rawQ, Rq.zero, HI0.out, h1, h]))⟩
      by_cases k3 : kx = 3
      · subst k3
        by_cases hl : m = 18
        · subst hl
          have h5 : c ≠ 5 := by have := HL.out.2; omega
          obtain rfl := HO6.out.2 h5
          clear h5
          focus
            obtain ⟨iX4, X4, KX4, fX4, gX4, HX4⟩ := val8 HB 4 5 rfl (by have := HL.out; omega)
            obtain ⟨X7, cX7, fX7, gX7, EX7, HX7⟩ := val1 HB S2.out.n 12 13 rfl (by have := HL.out; omega)
            obtain ⟨X8, cX8, fX8, gX8, EX8, HX8⟩ := val1 HB S2.out.n 13 14 rfl (by have := HL.out; omega)
            obtain ⟨iX9, X9, KX9, fX9, gX9, HX9⟩ := val8 HB 14 15 rfl (by have := HL.out; omega)
            go_upto_region 14 with (fail)
            have hs8 : (8 : Int) ≤ ((c - 5 : Nat) : Int) := by have := HL.out.2; omega
            have hs18 : (18 : Int) ≤ ((c - 5 : Nat) : Int) := by have := HL.out.2; omega
            have hq10 : ¬ ((c - 5 : Nat) : Int) = 10 := by have := HL.out.2; omega
            have hr10 : ¬ c - 5 = 10 := by have := HL.out.2; omega
            obtain ⟨v4, z4⟩ := Doc.at (Lib.hid S2.out.drew) 4 (.int .i64 0) rfl
            obtain ⟨v5, z5⟩ := Doc.at (Lib.hid S2.out.drew) 5 (.int .i64 0) rfl
            obtain ⟨v6, z6⟩ := Doc.at (Lib.hid S2.out.drew) 6 (.int .i64 0) rfl
            obtain ⟨v7, z7⟩ := Doc.at (Lib.hid S2.out.drew) 7 (.int .i64 0) rfl
            obtain ⟨v8, z8⟩ := Doc.at (Lib.hid S2.out.drew) 8 (.int .i64 0) rfl
            obtain ⟨v9, z9⟩ := Doc.at (Lib.hid S2.out.drew) 9 (.int .i64 0) rfl
            refine wp_region_F (fun W => Nw w2 W ∧ W.cell? ⟨b, off + 13, none⟩ = some (.int .u8 X7) ∧ W.cell? ⟨b, off + 14, none⟩ = some (.int .u8 X8)) [19] (by kernel_rfl) ?_
            have hS : Nw w2 w2.drew ∧ w2.drew.cell? ⟨b, off + 13, none⟩ = some (.int .u8 X7) ∧ w2.drew.cell? ⟨b, off + 14, none⟩ = some (.int .u8 X8) := ⟨(Nw.refl w2).drew, cX7, cX8⟩
            refine wpAnyF_freeT (i := 0) (v := ?_) rfl (by kernel_rfl) (by kernel_rfl) (by kernel_rfl) (by kernel_rfl) (by kernel_rfl) (fun _ _ _ h => h) (by rfl) ?_ hS ?_
            rotate_left
            · intro u
              go_simp
              try with_reducible rfl
            try simp only [List.getElem_toArray, List.getElem_cons_succ, List.getElem_cons_zero, Act.put, List.setIfInBounds_toArray, List.set_cons_zero, List.set_cons_succ]
            refine wpAnyF_freeT (i := 1) (v := ?_) rfl (by kernel_rfl) (by kernel_rfl) (by kernel_rfl) (by kernel_rfl) (by kernel_rfl) (fun _ _ _ h => h) (by rfl) ?_ hS ?_
            rotate_left
            · intro u
              go_simp
              try with_reducible rfl
            try simp only [List.getElem_toArray, List.getElem_cons_succ, List.getElem_cons_zero, Act.put, List.setIfInBounds_toArray, List.set_cons_zero, List.set_cons_succ]
            refine wpAnyF_freeT (i := 5) (v := ?_) rfl (by kernel_rfl) (by kernel_rfl) (by kernel_rfl) (by kernel_rfl) (by kernel_rfl) (fun _ _ _ h => h) (by rfl) ?_ hS ?_
            rotate_left
            · intro u
              go_simp
              try with_reducible rfl
            try simp only [List.getElem_toArray, List.getElem_cons_succ, List.getElem_cons_zero, Act.put, List.setIfInBounds_toArray, List.set_cons_zero, List.set_cons_succ]
            refine wpAnyF_freeT (i := 6) (v := ?_) rfl (by kernel_rfl) (by kernel_rfl) (by kernel_rfl) (by kernel_rfl) (by kernel_rfl) (fun _ _ _ h => h) (by rfl) ?_ hS ?_
            rotate_left
            · intro u
              go_simp
              try with_reducible rfl
            try simp only [List.getElem_toArray, List.getElem_cons_succ, List.getElem_cons_zero, Act.put, List.setIfInBounds_toArray, List.set_cons_zero, List.set_cons_succ]
            refine wpAnyF_takeT (i := 7) (v := ?_) rfl (by kernel_rfl) (by kernel_rfl) (by kernel_rfl) (by kernel_rfl) (by kernel_rfl) (by kernel_rfl) (fun _ _ _ h => h) (by rfl) ?_ hS ?_
            rotate_left
            · intro u hu
              have hu1 := hu.2.1
              have hu2 := hu.2.2
              go_simp
              try with_reducible rfl
            try simp only [List.getElem_toArray, List.getElem_cons_succ, List.getElem_cons_zero, Act.put, List.setIfInBounds_toArray, List.set_cons_zero, List.set_cons_succ]
            refine wpAnyF_freeT (i := 8) (v := ?_) rfl (by kernel_rfl) (by kernel_rfl) (by kernel_rfl) (by kernel_rfl) (by kernel_rfl) (fun _ _ _ h => h) (by rfl) ?_ hS ?_
            rotate_left
            · intro u
              go_simp
              try with_reducible rfl
            try simp only [List.getElem_toArray, List.getElem_cons_succ, List.getElem_cons_zero, Act.put, List.setIfInBounds_toArray, List.set_cons_zero, List.set_cons_succ]
            refine wpAnyF_freeT (i := 9) (v := ?_) rfl (by kernel_rfl) (by kernel_rfl) (by kernel_rfl) (by kernel_rfl) (by kernel_rfl) (fun _ _ _ h => h) (by rfl) ?_ hS ?_
            rotate_left
            · intro u
              go_simp
              try with_reducible rfl
            try simp only [List.getElem_toArray, List.getElem_cons_succ, List.getElem_cons_zero, Act.put, List.setIfInBounds_toArray, List.set_cons_zero, List.set_cons_succ]
            refine wpAnyF_freeT (i := 10) (v := ?_) rfl (by kernel_rfl) (by kernel_rfl) (by kernel_rfl) (by kernel_rfl) (by kernel_rfl) (fun _ _ _ h => h) (by rfl) ?_ hS ?_
            rotate_left
            · intro u
              go_simp
              try with_reducible rfl
            try simp only [List.getElem_toArray, List.getElem_cons_succ, List.getElem_cons_zero, Act.put, List.setIfInBounds_toArray, List.set_cons_zero, List.set_cons_succ]
            refine wpAnyF_takeT (i := 11) (v := ?_) rfl (by kernel_rfl) (by kernel_rfl) (by kernel_rfl) (by kernel_rfl) (by kernel_rfl) (by kernel_rfl) (fun _ _ _ h => h) (by rfl) ?_ hS ?_
            rotate_left
            · intro u hu
              have hu1 := hu.2.1
              have hu2 := hu.2.2
              go_simp
              try with_reducible rfl
            try simp only [List.getElem_toArray, List.getElem_cons_succ, List.getElem_cons_zero, Act.put, List.setIfInBounds_toArray, List.set_cons_zero, List.set_cons_succ]
            refine wpAnyF_freeT (i := 12) (v := ?_) rfl (by kernel_rfl) (by kernel_rfl) (by kernel_rfl) (by kernel_rfl) (by kernel_rfl) (fun _ _ _ h => h) (by rfl) ?_ hS ?_
            rotate_left
            · intro u
              go_simp
              try with_reducible rfl
            try simp only [List.getElem_toArray, List.getElem_cons_succ, List.getElem_cons_zero, Act.put, List.setIfInBounds_toArray, List.set_cons_zero, List.set_cons_succ]
            refine wpAnyF_freeT (i := 13) (v := ?_) rfl (by kernel_rfl) (by kernel_rfl) (by kernel_rfl) (by kernel_rfl) (by kernel_rfl) (fun _ _ _ h => h) (by rfl) ?_ hS ?_
            rotate_left
            · intro u
              go_simp
              try with_reducible rfl
            try simp only [List.getElem_toArray, List.getElem_cons_succ, List.getElem_cons_zero, Act.put, List.setIfInBounds_toArray, List.set_cons_zero, List.set_cons_succ]
            refine wpAnyF_freeT (i := 14) (v := ?_) rfl (by kernel_rfl) (by kernel_rfl) (by kernel_rfl) (by kernel_rfl) (by kernel_rfl) (fun _ _ _ h => h) (by rfl) ?_ hS ?_
            rotate_left
            · intro u
              go_simp
              try with_reducible rfl
            try simp only [List.getElem_toArray, List.getElem_cons_succ, List.getElem_cons_zero, Act.put, List.setIfInBounds_toArray, List.set_cons_zero, List.set_cons_succ]
            refine wpAnyF_step (i := 2) (by kernel_rfl) rfl (by rfl) fun K hK => ?_
            go_simp
            go_at_call 33
            refine (KX4.out w2.drew _ S2.out.n.drew).mono ?_
            rintro e w' ⟨rfl, hw⟩
            rw [hw]
            clear hw w'
            refine hK _ _ (.inr (hS)) ?_
            clear hK K
            try simp only [List.getElem_toArray, List.getElem_cons_succ, List.getElem_cons_zero, Act.put, List.setIfInBounds_toArray, List.set_cons_zero, List.set_cons_succ]
            refine wpAnyF_freeT (i := 3) (v := ?_) rfl (by kernel_rfl) (by kernel_rfl) (by kernel_rfl) (by kernel_rfl) (by kernel_rfl) (fun _ _ _ h => h) (by rfl) ?_ hS ?_
            rotate_left
            · intro u
              go_simp
              try with_reducible rfl
            try simp only [List.getElem_toArray, List.getElem_cons_succ, List.getElem_cons_zero, Act.put, List.setIfInBounds_toArray, List.set_cons_zero, List.set_cons_succ]
            refine wpAnyF_freeT (i := 4) (v := ?_) rfl (by kernel_rfl) (by kernel_rfl) (by kernel_rfl) (by kernel_rfl) (by kernel_rfl) (fun _ _ _ h => h) (by rfl) ?_ hS ?_
            rotate_left
            · intro u
              go_simp
              try with_reducible rfl
            try simp only [List.getElem_toArray, List.getElem_cons_succ, List.getElem_cons_zero, Act.put, List.setIfInBounds_toArray, List.set_cons_zero, List.set_cons_succ]
            refine wpAnyF_step (i := 15) (by kernel_rfl) rfl (by rfl) fun K hK => ?_
            go_simp
            go_at_call 33
            refine (KX9.out w2.drew _ S2.out.n.drew).mono ?_
            rintro e w' ⟨rfl, hw⟩
            rw [hw]
            clear hw w'
            refine hK _ _ (.inr (hS)) ?_
            clear hK K
            try simp only [List.getElem_toArray, List.getElem_cons_succ, List.getElem_cons_zero, Act.put, List.setIfInBounds_toArray, List.set_cons_zero, List.set_cons_succ]
            refine wpAnyF_freeT (i := 16) (v := ?_) rfl (by kernel_rfl) (by kernel_rfl) (by kernel_rfl) (by kernel_rfl) (by kernel_rfl) (fun _ _ _ h => h) (by rfl) ?_ hS ?_
            rotate_left
            · intro u
              go_simp
              try with_reducible rfl
            try simp only [List.getElem_toArray, List.getElem_cons_succ, List.getElem_cons_zero, Act.put, List.setIfInBounds_toArray, List.set_cons_zero, List.set_cons_succ]
            refine wpAnyF_freeT (i := 17) (v := ?_) rfl (by kernel_rfl) (by kernel_rfl) (by kernel_rfl) (by kernel_rfl) (by kernel_rfl) (fun _ _ _ h => h) (by rfl) ?_ hS ?_
            rotate_left
            · intro u
              go_simp
              try with_reducible rfl
            try simp only [List.getElem_toArray, List.getElem_cons_succ, List.getElem_cons_zero, Act.put, List.setIfInBounds_toArray, List.set_cons_zero, List.set_cons_succ]
            refine wpAnyF_freeT (i := 18) (v := ?_) rfl (by kernel_rfl) (by kernel_rfl) (by kernel_rfl) (by kernel_rfl) (by kernel_rfl) (fun _ _ _ h => h) (by rfl) ?_ hS ?_
            rotate_left
            · intro u
              go_simp
              try with_reducible rfl
            try simp only [List.getElem_toArray, List.getElem_cons_succ, List.getElem_cons_zero, Act.put, List.setIfInBounds_toArray, List.set_cons_zero, List.set_cons_succ]
            refine wpAnyF_step (i := 19) (by kernel_rfl) rfl (by rfl) fun K hK => ?_
            refine wp_store_mid 29 _ _ rfl M 4 #[.int .i64 X4, .int .i64 0, .int .i64 0, .int .i64 X7, .int .i64 X8, .int .i64 X9] rfl rfl (there_of S2.out.m.drew _ _ (by simp [rwQ, Rq.c])) (by kernel_rfl) (by simp [Value.oneCell']) ?_
            refine hK _ (w2.drew.setCells M 4 [.int .i64 X4, .int .i64 0, .int .i64 0, .int .i64 X7, .int .i64 X8, .int .i64 X9]) (.inl (by kernel_rfl)) ?_
            clear hK K
            try simp only [List.getElem_toArray, List.getElem_cons_succ, List.getElem_cons_zero, Act.put, List.setIfInBounds_toArray, List.set_cons_zero, List.set_cons_succ]
            refine wpAnyF_done (by kernel_rfl) ?_ _
            go_wp2_with fail
            go_meet
            obtain ⟨w3, hw3, S3, hb3, u0⟩ := Doc.sets (Lib.hid S2.out.drew) HME 4 [.int .i64 X4, .int .i64 0, .int .i64 0, .int .i64 X7, .int .i64 X8, .int .i64 X9] (rwQ ⟨3, I0, 0, [], X4, 0, 0, X7, X8, X9, 0, 0, 0, 0, 0, 0, 0⟩) 3 rfl rfl
            rw [hw3]
            clear hw3
            have := HI0R.out; have := EX7.out; have := EX8.out
            exact ⟨_, none, 0, Lib.hid (AtEnd.of S3 rfl (by simp [rawQ, Rq.zero, HL.out.1, HI0.out, HX4.out, HX7.out, HX8.out, HX9.out]))⟩
        · have jl : ((m : Int) == 18) = false := by simp; omega
          have HWL := Lib.hid hl
          as_aux_lemma =>
            go_wp2_with fail
            go_meet
            have h := HWL.out
            have h1 := HL.out.1
            have := HI0R.out
            exact ⟨_, none, 0, Lib.hid (AtEnd.of S2 rfl (by simp [rawQ, Rq.zero, HI0.out, h1, h]))⟩
      by_cases k4 : kx = 4
      · subst k4
        by_cases hl : m = 14
        · subst hl
          have h5 : c ≠ 5 := by have := HL.out.2; omega
          obtain rfl := HO6.out.2 h5
          clear h5
          by_cases h255 : beN ((bs.drop 9).take 1) = 255
          · have H255 := Lib.hid h255
            clear h255
            as_aux_lemma =>
              obtain ⟨X10, KX10, fX10, EX10, HX10⟩ := val4 HB 4 5 rfl (by have := HL.out; omega)
              go_upto_region 16 with (fail)
              have hs4 : (4 : Int) ≤ ((c - 5 : Nat) : Int) := by have := HL.out.2; omega
              have hs14 : (14 : Int) ≤ ((c - 5 : Nat) : Int) := by have := HL.out.2; omega
              have hq6 : ¬ ((c - 5 : Nat) : Int) = 6 := by have := HL.out.2; omega
              have hr6 : ¬ c - 5 = 6 := by have := HL.out.2; omega
              obtain ⟨v10, z10⟩ := Doc.at S2 10 (.int .u32 0) rfl
              go_wp2_with fail
              refine (KX10.out w2 _ S2.out.n).mono ?_
              rintro e w' ⟨rfl, hw⟩
              rw [hw]
              clear hw w'
              go_upto_region 17 with (fail)
              obtain ⟨wB, hwB, SB, hbB, u0⟩ := Doc.set S2 HME 10 (.int .u32 X10) (rwQ ⟨4, I0, 0, [], 0, 0, 0, 0, 0, 0, X10, 0, 0, 0, 0, 0, 0⟩) 4 rfl rfl
              rw [hwB]
              clear hwB
              obtain ⟨X11, cX11, fX11, gX11, EX11, HX11⟩ := val1 HB SB.out.n 8 9 rfl (by have := HL.out; omega)
              obtain ⟨X12, cX12, fX12, gX12, EX12, HX12⟩ := val1 HB SB.out.n 9 10 rfl (by have := HL.out; omega)
              obtain ⟨iX13, X13, KX13, fX13, gX13, HX13⟩ := val8 HB 10 11 rfl (by have := HL.out; omega)
              have hX : X12 = 255 := by rw [← HX12.out]; exact congrArg Int.ofNat H255.out
              subst hX
              refine wp_region_F (fun W => Nw wB W ∧ W.cell? ⟨b, off + 9, none⟩ = some (.int .u8 X11) ∧ W.cell? ⟨b, off + 10, none⟩ = some (.int .u8 255)) [14] (by kernel_rfl) ?_
              have hS : Nw wB wB.drew ∧ wB.drew.cell? ⟨b, off + 9, none⟩ = some (.int .u8 X11) ∧ wB.drew.cell? ⟨b, off + 10, none⟩ = some (.int .u8 255) := ⟨(Nw.refl wB).drew, cX11, cX12⟩
              refine wpAnyF_freeT (i := 0) (v := ?_) rfl (by kernel_rfl) (by kernel_rfl) (by kernel_rfl) (by kernel_rfl) (by kernel_rfl) (fun _ _ _ h => h) (by rfl) ?_ hS ?_
              rotate_left
              · intro u
                go_simp
                try with_reducible rfl
              try simp only [List.getElem_toArray, List.getElem_cons_succ, List.getElem_cons_zero, Act.put, List.setIfInBounds_toArray, List.set_cons_zero, List.set_cons_succ]
              refine wpAnyF_freeT (i := 1) (v := ?_) rfl (by kernel_rfl) (by kernel_rfl) (by kernel_rfl) (by kernel_rfl) (by kernel_rfl) (fun _ _ _ h => h) (by rfl) ?_ hS ?_
              rotate_left
              · intro u
                go_simp
                try with_reducible rfl
              try simp only [List.getElem_toArray, List.getElem_cons_succ, List.getElem_cons_zero, Act.put, List.setIfInBounds_toArray, List.set_cons_zero, List.set_cons_succ]
              refine wpAnyF_takeT (i := 2) (v := ?_) rfl (by kernel_rfl) (by kernel_rfl) (by kernel_rfl) (by kernel_rfl) (by kernel_rfl) (by kernel_rfl) (fun _ _ _ h => h) (by rfl) ?_ hS ?_
              rotate_left
              · intro u hu
                have hu1 := hu.2.1
                have hu2 := hu.2.2
                go_simp
                try with_reducible rfl
              try simp only [List.getElem_toArray, List.getElem_cons_succ, List.getElem_cons_zero, Act.put, List.setIfInBounds_toArray, List.set_cons_zero, List.set_cons_succ]
              refine wpAnyF_freeT (i := 3) (v := ?_) rfl (by kernel_rfl) (by kernel_rfl) (by kernel_rfl) (by kernel_rfl) (by kernel_rfl) (fun _ _ _ h => h) (by rfl) ?_ hS ?_
              rotate_left
              · intro u
                go_simp
                try with_reducible rfl
              try simp only [List.getElem_toArray, List.getElem_cons_succ, List.getElem_cons_zero, Act.put, List.setIfInBounds_toArray, List.set_cons_zero, List.set_cons_succ]
              refine wpAnyF_freeT (i := 4) (v := ?_) rfl (by kernel_rfl) (by kernel_rfl) (by kernel_rfl) (by kernel_rfl) (by kernel_rfl) (fun _ _ _ h => h) (by rfl) ?_ hS ?_
              rotate_left
              · intro u
                go_simp
                try with_reducible rfl
              try simp only [List.getElem_toArray, List.getElem_cons_succ, List.getElem_cons_zero, Act.put, List.setIfInBounds_toArray, List.set_cons_zero, List.set_cons_succ]
              refine wpAnyF_freeT (i := 5) (v := ?_) rfl (by kernel_rfl) (by kernel_rfl) (by kernel_rfl) (by kernel_rfl) (by kernel_rfl) (fun _ _ _ h => h) (by rfl) ?_ hS ?_
              rotate_left
              · intro u
                go_simp
                try with_reducible rfl
              try simp only [List.getElem_toArray, List.getElem_cons_succ, List.getElem_cons_zero, Act.put, List.setIfInBounds_toArray, List.set_cons_zero, List.set_cons_succ]
              refine wpAnyF_takeT (i := 6) (v := ?_) rfl (by kernel_rfl) (by kernel_rfl) (by kernel_rfl) (by kernel_rfl) (by kernel_rfl) (by kernel_rfl) (fun _ _ _ h => h) (by rfl) ?_ hS ?_
              rotate_left
              · intro u hu
                have hu1 := hu.2.1
                have hu2 := hu.2.2
                go_simp
                try with_reducible rfl
              try simp only [List.getElem_toArray, List.getElem_cons_succ, List.getElem_cons_zero, Act.put, List.setIfInBounds_toArray, List.set_cons_zero, List.set_cons_succ]
              refine wpAnyF_freeT (i := 7) (v := ?_) rfl (by kernel_rfl) (by kernel_rfl) (by kernel_rfl) (by kernel_rfl) (by kernel_rfl) (fun _ _ _ h => h) (by rfl) ?_ hS ?_
              rotate_left
              · intro u
                go_simp
                try with_reducible rfl
              try simp only [List.getElem_toArray, List.getElem_cons_succ, List.getElem_cons_zero, Act.put, List.setIfInBounds_toArray, List.set_cons_zero, List.set_cons_succ]
              refine wpAnyF_freeT (i := 8) (v := ?_) rfl (by kernel_rfl) (by kernel_rfl) (by kernel_rfl) (by kernel_rfl) (by kernel_rfl) (fun _ _ _ h => h) (by rfl) ?_ hS ?_
              rotate_left
              · intro u
                go_simp
                try with_reducible rfl
              try simp only [List.getElem_toArray, List.getElem_cons_succ, List.getElem_cons_zero, Act.put, List.setIfInBounds_toArray, List.set_cons_zero, List.set_cons_succ]
              refine wpAnyF_freeT (i := 9) (v := ?_) rfl (by kernel_rfl) (by kernel_rfl) (by kernel_rfl) (by kernel_rfl) (by kernel_rfl) (fun _ _ _ h => h) (by rfl) ?_ hS ?_
              rotate_left
              · intro u
                go_simp
                try with_reducible rfl
              try simp only [List.getElem_toArray, List.getElem_cons_succ, List.getElem_cons_zero, Act.put, List.setIfInBounds_toArray, List.set_cons_zero, List.set_cons_succ]
              refine wpAnyF_step (i := 10) (by kernel_rfl) rfl (by rfl) fun K hK => ?_
              go_simp
              go_at_call 33
              refine (KX13.out wB.drew _ SB.out.n.drew).mono ?_
              rintro e w' ⟨rfl, hw⟩
              rw [hw]
              clear hw w'
              refine hK _ _ (.inr (hS)) ?_
              clear hK K
              try simp only [List.getElem_toArray, List.getElem_cons_succ, List.getElem_cons_zero, Act.put, List.setIfInBounds_toArray, List.set_cons_zero, List.set_cons_succ]
              refine wpAnyF_freeT (i := 11) (v := ?_) rfl (by kernel_rfl) (by kernel_rfl) (by kernel_rfl) (by kernel_rfl) (by kernel_rfl) (fun _ _ _ h => h) (by rfl) ?_ hS ?_
              rotate_left
              · intro u
                go_simp
                try with_reducible rfl
              try simp only [List.getElem_toArray, List.getElem_cons_succ, List.getElem_cons_zero, Act.put, List.setIfInBounds_toArray, List.set_cons_zero, List.set_cons_succ]
              refine wpAnyF_freeT (i := 12) (v := ?_) rfl (by kernel_rfl) (by kernel_rfl) (by kernel_rfl) (by kernel_rfl) (by kernel_rfl) (fun _ _ _ h => h) (by rfl) ?_ hS ?_
              rotate_left
              · intro u
                go_simp
                try with_reducible rfl
              try simp only [List.getElem_toArray, List.getElem_cons_succ, List.getElem_cons_zero, Act.put, List.setIfInBounds_toArray, List.set_cons_zero, List.set_cons_succ]
              refine wpAnyF_freeT (i := 13) (v := ?_) rfl (by kernel_rfl) (by kernel_rfl) (by kernel_rfl) (by kernel_rfl) (by kernel_rfl) (fun _ _ _ h => h) (by rfl) ?_ hS ?_
              rotate_left
              · intro u
                go_simp
                try with_reducible rfl
              try simp only [List.getElem_toArray, List.getElem_cons_succ, List.getElem_cons_zero, Act.put, List.setIfInBounds_toArray, List.set_cons_zero, List.set_cons_succ]
              refine wpAnyF_step (i := 14) (by kernel_rfl) rfl (by rfl) fun K hK => ?_
              refine wp_store_mid 31 _ _ rfl M 11 #[.int .i64 X11, .int .i64 255, .int .i64 X13] rfl rfl (there_of SB.out.m.drew _ _ (by simp [rwQ, Rq.c])) (by kernel_rfl) (by simp [Value.oneCell']) ?_
              refine hK _ (wB.drew.setCells M 11 [.int .i64 X11, .int .i64 255, .int .i64 X13]) (.inl (by kernel_rfl)) ?_
              clear hK K
              try simp only [List.getElem_toArray, List.getElem_cons_succ, List.getElem_cons_zero, Act.put, List.setIfInBounds_toArray, List.set_cons_zero, List.set_cons_succ]
              refine wpAnyF_done (by kernel_rfl) ?_ _
              go_upto_region 18 with (fail)
              obtain ⟨wC, hwC, SC, hbC, u0⟩ := Doc.sets (Lib.hid SB.out.drew) HME 11 [.int .i64 X11, .int .i64 255, .int .i64 X13] (rwQ ⟨4, I0, 0, [], 0, 0, 0, 0, 0, 0, X10, X11, 255, X13, 0, 0, 0⟩) 4 rfl rfl
              rw [hwC]
              clear hwC
              have cY : wC.cell? ⟨b, off + 10, none⟩ = some (.int .u8 255) := by have h := HX12.out; have := SC.out.n.cell (byte_cell HB.out 9 (by have := HL.out; omega)); rw [h] at this; exact this
              obtain ⟨v12, z12⟩ := Doc.at SC 12 (.int .i64 255) rfl
              go_wp2_with fail
              go_meet
              obtain ⟨w3, hw3, S3, hb3, u0⟩ := Doc.set SC HME 12 (.int .i64 (-1)) (rwQ ⟨4, I0, 0, [], 0, 0, 0, 0, 0, 0, X10, X11, -1, X13, 0, 0, 0⟩) 4 rfl rfl
              rw [hw3]
              clear hw3
              have := HI0R.out; have := EX10.out; have := EX11.out; have := EX12.out
              exact ⟨_, none, 0, Lib.hid (AtEnd.of S3 rfl (by simp [rawQ, Rq.zero, HL.out.1, HI0.out, HX10.out, HX11.out, HX13.out, kindOf, H255.out]))⟩
          · have H255 := Lib.hid h255
            clear h255
            as_aux_lemma =>
              obtain ⟨X10, KX10, fX10, EX10, HX10⟩ := val4 HB 4 5 rfl (by have := HL.out; omega)
              go_upto_region 16 with (fail)
              have hs4 : (4 : Int) ≤ ((c - 5 : Nat) : Int) := by have := HL.out.2; omega
              have hs14 : (14 : Int) ≤ ((c - 5 : Nat) : Int) := by have := HL.out.2; omega
              have hq6 : ¬ ((c - 5 : Nat) : Int) = 6 := by have := HL.out.2; omega
              have hr6 : ¬ c - 5 = 6 := by have := HL.out.2; omega
              obtain ⟨v10, z10⟩ := Doc.at S2 10 (.int .u32 0) rfl
              go_wp2_with fail
              refine (KX10.out w2 _ S2.out.n).mono ?_
              rintro e w' ⟨rfl, hw⟩
              rw [hw]
              clear hw w'
              go_upto_region 17 with (fail)
              obtain ⟨wB, hwB, SB, hbB, u0⟩ := Doc.set S2 HME 10 (.int .u32 X10) (rwQ ⟨4, I0, 0, [], 0, 0, 0, 0, 0, 0, X10, 0, 0, 0, 0, 0, 0⟩) 4 rfl rfl
              rw [hwB]
              clear hwB
              obtain ⟨X11, cX11, fX11, gX11, EX11, HX11⟩ := val1 HB SB.out.n 8 9 rfl (by have := HL.out; omega)
              obtain ⟨X12, cX12, fX12, gX12, EX12, HX12⟩ := val1 HB SB.out.n 9 10 rfl (by have := HL.out; omega)
              obtain ⟨iX13, X13, KX13, fX13, gX13, HX13⟩ := val8 HB 10 11 rfl (by have := HL.out; omega)
              have hX : (X12 == 255) = false := by have := H255.out; have := HX12.out; simp; omega
              have hX2 := Lib.hid (show ¬ X12 = 255 by have := H255.out; have := HX12.out; omega)
              refine wp_region_F (fun W => Nw wB W ∧ W.cell? ⟨b, off + 9, none⟩ = some (.int .u8 X11) ∧ W.cell? ⟨b, off + 10, none⟩ = some (.int .u8 X12)) [14] (by kernel_rfl) ?_
              have hS : Nw wB wB.drew ∧ wB.drew.cell? ⟨b, off + 9, none⟩ = some (.int .u8 X11) ∧ wB.drew.cell? ⟨b, off + 10, none⟩ = some (.int .u8 X12) := ⟨(Nw.refl wB).drew, cX11, cX12⟩
              refine wpAnyF_freeT (i := 0) (v := ?_) rfl (by kernel_rfl) (by kernel_rfl) (by kernel_rfl) (by kernel_rfl) (by kernel_rfl) (fun _ _ _ h => h) (by rfl) ?_ hS ?_
              rotate_left
              · intro u
                go_simp
                try with_reducible rfl
              try simp only [List.getElem_toArray, List.getElem_cons_succ, List.getElem_cons_zero, Act.put, List.setIfInBounds_toArray, List.set_cons_zero, List.set_cons_succ]
              refine wpAnyF_freeT (i := 1) (v := ?_) rfl (by kernel_rfl) (by kernel_rfl) (by kernel_rfl) (by kernel_rfl) (by kernel_rfl) (fun _ _ _ h => h) (by rfl) ?_ hS ?_
              rotate_left
              · intro u
                go_simp
                try with_reducible rfl
              try simp only [List.getElem_toArray, List.getElem_cons_succ, List.getElem_cons_zero, Act.put, List.setIfInBounds_toArray, List.set_cons_zero, List.set_cons_succ]
              refine wpAnyF_takeT (i := 2) (v := ?_) rfl (by kernel_rfl) (by kernel_rfl) (by kernel_rfl) (by kernel_rfl) (by kernel_rfl) (by kernel_rfl) (fun _ _ _ h => h) (by rfl) ?_ hS ?_
              rotate_left
              · intro u hu
                have hu1 := hu.2.1
                have hu2 := hu.2.2
                go_simp
                try with_reducible rfl
              try simp only [List.getElem_toArray, List.getElem_cons_succ, List.getElem_cons_zero, Act.put, List.setIfInBounds_toArray, List.set_cons_zero, List.set_cons_succ]
              refine wpAnyF_freeT (i := 3) (v := ?_) rfl (by kernel_rfl) (by kernel_rfl) (by kernel_rfl) (by kernel_rfl) (by kernel_rfl) (fun _ _ _ h => h) (by rfl) ?_ hS ?_
              rotate_left
              · intro u
                go_simp
                try with_reducible rfl
              try simp only [List.getElem_toArray, List.getElem_cons_succ, List.getElem_cons_zero, Act.put, List.setIfInBounds_toArray, List.set_cons_zero, List.set_cons_succ]
              refine wpAnyF_freeT (i := 4) (v := ?_) rfl (by kernel_rfl) (by kernel_rfl) (by kernel_rfl) (by kernel_rfl) (by kernel_rfl) (fun _ _ _ h => h) (by rfl) ?_ hS ?_
              rotate_left
              · intro u
                go_simp
                try with_reducible rfl
              try simp only [List.getElem_toArray, List.getElem_cons_succ, List.getElem_cons_zero, Act.put, List.setIfInBounds_toArray, List.set_cons_zero, List.set_cons_succ]
              refine wpAnyF_freeT (i := 5) (v := ?_) rfl (by kernel_rfl) (by kernel_rfl) (by kernel_rfl) (by kernel_rfl) (by kernel_rfl) (fun _ _ _ h => h) (by rfl) ?_ hS ?_
              rotate_left
              · intro u
                go_simp
                try with_reducible rfl
              try simp only [List.getElem_toArray, List.getElem_cons_succ, List.getElem_cons_zero, Act.put, List.setIfInBounds_toArray, List.set_cons_zero, List.set_cons_succ]
              refine wpAnyF_takeT (i := 6) (v := ?_) rfl (by kernel_rfl) (by kernel_rfl) (by kernel_rfl) (by kernel_rfl) (by kernel_rfl) (by kernel_rfl) (fun _ _ _ h => h) (by rfl) ?_ hS ?_
              rotate_left
              · intro u hu
                have hu1 := hu.2.1
                have hu2 := hu.2.2
                go_simp
                try with_reducible rfl
              try simp only [List.getElem_toArray, List.getElem_cons_succ, List.getElem_cons_zero, Act.put, List.setIfInBounds_toArray, List.set_cons_zero, List.set_cons_succ]
              refine wpAnyF_freeT (i := 7) (v := ?_) rfl (by kernel_rfl) (by kernel_rfl) (by kernel_rfl) (by kernel_rfl) (by kernel_rfl) (fun _ _ _ h => h) (by rfl) ?_ hS ?_
              rotate_left
              · intro u
                go_simp
                try with_reducible rfl
              try simp only [List.getElem_toArray, List.getElem_cons_succ, List.getElem_cons_zero, Act.put, List.setIfInBounds_toArray, List.set_cons_zero, List.set_cons_succ]
              refine wpAnyF_freeT (i := 8) (v := ?_) rfl (by kernel_rfl) (by kernel_rfl) (by kernel_rfl) (by kernel_rfl) (by kernel_rfl) (fun _ _ _ h => h) (by rfl) ?_ hS ?_
              rotate_left
              · intro u
                go_simp
                try with_reducible rfl
              try simp only [List.getElem_toArray, List.getElem_cons_succ, List.getElem_cons_zero, Act.put, List.setIfInBounds_toArray, List.set_cons_zero, List.set_cons_succ]
              refine wpAnyF_freeT (i := 9) (v := ?_) rfl (by kernel_rfl) (by kernel_rfl) (by kernel_rfl) (by kernel_rfl) (by kernel_rfl) (fun _ _ _ h => h) (by rfl) ?_ hS ?_
              rotate_left
              · intro u
                go_simp
                try with_reducible rfl
              try simp only [List.getElem_toArray, List.getElem_cons_succ, List.getElem_cons_zero, Act.put, List.setIfInBounds_toArray, List.set_cons_zero, List.set_cons_succ]
              refine wpAnyF_step (i := 10) (by kernel_rfl) rfl (by rfl) fun K hK => ?_
              go_simp
              go_at_call 33
              refine (KX13.out wB.drew _ SB.out.n.drew).mono ?_
              rintro e w' ⟨rfl, hw⟩
              rw [hw]
              clear hw w'
              refine hK _ _ (.inr (hS)) ?_
              clear hK K
              try simp only [List.getElem_toArray, List.getElem_cons_succ, List.getElem_cons_zero, Act.put, List.setIfInBounds_toArray, List.set_cons_zero, List.set_cons_succ]
              refine wpAnyF_freeT (i := 11) (v := ?_) rfl (by kernel_rfl) (by kernel_rfl) (by kernel_rfl) (by kernel_rfl) (by kernel_rfl) (fun _ _ _ h => h) (by rfl) ?_ hS ?_
              rotate_left
              · intro u
                go_simp
                try with_reducible rfl
              try simp only [List.getElem_toArray, List.getElem_cons_succ, List.getElem_cons_zero, Act.put, List.setIfInBounds_toArray, List.set_cons_zero, List.set_cons_succ]
              refine wpAnyF_freeT (i := 12) (v := ?_) rfl (by kernel_rfl) (by kernel_rfl) (by kernel_rfl) (by kernel_rfl) (by kernel_rfl) (fun _ _ _ h => h) (by rfl) ?_ hS ?_
              rotate_left
              · intro u
                go_simp
                try with_reducible rfl
              try simp only [List.getElem_toArray, List.getElem_cons_succ, List.getElem_cons_zero, Act.put, List.setIfInBounds_toArray, List.set_cons_zero, List.set_cons_succ]
              refine wpAnyF_freeT (i := 13) (v := ?_) rfl (by kernel_rfl) (by kernel_rfl) (by kernel_rfl) (by kernel_rfl) (by kernel_rfl) (fun _ _ _ h => h) (by rfl) ?_ hS ?_
              rotate_left
              · intro u
                go_simp
                try with_reducible rfl
              try simp only [List.getElem_toArray, List.getElem_cons_succ, List.getElem_cons_zero, Act.put, List.setIfInBounds_toArray, List.set_cons_zero, List.set_cons_succ]
              refine wpAnyF_step (i := 14) (by kernel_rfl) rfl (by rfl) fun K hK => ?_
              refine wp_store_mid 31 _ _ rfl M 11 #[.int .i64 X11, .int .i64 X12, .int .i64 X13] rfl rfl (there_of SB.out.m.drew _ _ (by simp [rwQ, Rq.c])) (by kernel_rfl) (by simp [Value.oneCell']) ?_
              refine hK _ (wB.drew.setCells M 11 [.int .i64 X11, .int .i64 X12, .int .i64 X13]) (.inl (by kernel_rfl)) ?_
              clear hK K
              try simp only [List.getElem_toArray, List.getElem_cons_succ, List.getElem_cons_zero, Act.put, List.setIfInBounds_toArray, List.set_cons_zero, List.set_cons_succ]
              refine wpAnyF_done (by kernel_rfl) ?_ _
              go_upto_region 18 with (fail)
              obtain ⟨wC, hwC, SC, hbC, u0⟩ := Doc.sets (Lib.hid SB.out.drew) HME 11 [.int .i64 X11, .int .i64 X12, .int .i64 X13] (rwQ ⟨4, I0, 0, [], 0, 0, 0, 0, 0, 0, X10, X11, X12, X13, 0, 0, 0⟩) 4 rfl rfl
              rw [hwC]
              clear hwC
              have cY : wC.cell? ⟨b, off + 10, none⟩ = some (.int .u8 X12) := by have h := HX12.out; have := SC.out.n.cell (byte_cell HB.out 9 (by have := HL.out; omega)); rw [h] at this; exact this
              go_wp2_with fail
              go_meet
              have := HI0R.out; have := EX10.out; have := EX11.out; have := EX12.out; have := hX2.out
              exact ⟨_, none, 0, Lib.hid (AtEnd.of SC rfl (by simp [rawQ, Rq.zero, HL.out.1, HI0.out, HX10.out, HX11.out, HX13.out, kindOf, H255.out, HX12.out]))⟩
        · have jl : ((m : Int) == 14) = false := by simp; omega
          have HWL := Lib.hid hl
          as_aux_lemma =>
            go_wp2_with fail
            go_meet
            have h := HWL.out
            have h1 := HL.out.1
            have := HI0R.out
            exact ⟨_, none, 0, Lib.hid (AtEnd.of S2 rfl (by simp [rawQ, Rq.zero, HI0.out, h1, h]))⟩
      by_cases k5 : kx = 5
      · subst k5
        by_cases hl : m = 4
        · subst hl
          have h5 : c ≠ 5 := by have := HL.out.2; omega
          obtain rfl := HO6.out.2 h5
          clear h5
          as_aux_lemma =>
            obtain ⟨X10, KX10, fX10, EX10, HX10⟩ := val4 HB 4 5 rfl (by have := HL.out; omega)
            go_upto_region 21 with (fail)
            have hs4 : (4 : Int) ≤ ((c - 5 : Nat) : Int) := by have := HL.out.2; omega
            obtain ⟨v10, z10⟩ := Doc.at S2 10 (.int .u32 0) rfl
            go_wp2_with fail
            refine (KX10.out w2 _ S2.out.n).mono ?_
            rintro e w' ⟨rfl, hw⟩
            rw [hw]
            clear hw w'
            go_wp2_with fail
            go_meet
            obtain ⟨w3, hw3, S3, hb3, u0⟩ := Doc.set S2 HME 10 (.int .u32 X10) (rwQ ⟨5, I0, 0, [], 0, 0, 0, 0, 0, 0, X10, 0, 0, 0, 0, 0, 0⟩) 5 rfl rfl
            rw [hw3]
            clear hw3
            have := HI0R.out; have := EX10.out
            exact ⟨_, none, 0, Lib.hid (AtEnd.of S3 rfl (by simp [rawQ, Rq.zero, HL.out.1, HI0.out, HX10.out]))⟩
        · have jl : ((m : Int) == 4) = false := by simp; omega
          have HWL := Lib.hid hl
          as_aux_lemma =>
            go_wp2_with fail
            go_meet
            have h := HWL.out
            have h1 := HL.out.1
            have := HI0R.out
            exact ⟨_, none, 0, Lib.hid (AtEnd.of S2 rfl (by simp [rawQ, Rq.zero, HI0.out, h1, h]))⟩
      by_cases k6 : kx = 6
      · subst k6
        by_cases hl : m = 1
        · subst hl
          have h5 : c ≠ 5 := by have := HL.out.2; omega
          obtain rfl := HO6.out.2 h5
          clear h5
          as_aux_lemma =>
            obtain ⟨X14, cX14, fX14, gX14, EX14, HX14⟩ := val1 HB S2.out.n 4 5 rfl (by have := HL.out; omega)
            go_upto_region 23 with (fail)
            obtain ⟨v14, z14⟩ := Doc.at S2 14 (.int .i64 0) rfl
            go_wp2_with fail
            go_meet
            obtain ⟨w3, hw3, S3, hb3, u0⟩ := Doc.set S2 HME 14 (.int .i64 X14) (rwQ ⟨6, I0, 0, [], 0, 0, 0, 0, 0, 0, 0, 0, 0, 0, X14, 0, 0⟩) 6 rfl rfl
            rw [hw3]
            clear hw3
            have := HI0R.out; have := EX14.out
            exact ⟨_, none, 0, Lib.hid (AtEnd.of S3 rfl (by simp [rawQ, Rq.zero, HL.out.1, HI0.out, HX14.out]))⟩
        · have jl : ((m : Int) == 1) = false := by simp; omega
          have HWL := Lib.hid hl
          as_aux_lemma =>
            go_wp2_with fail
            go_meet
            have h := HWL.out
            have h1 := HL.out.1
            have := HI0R.out
            exact ⟨_, none, 0, Lib.hid (AtEnd.of S2 rfl (by simp [rawQ, Rq.zero, HI0.out, h1, h]))⟩
      by_cases k10 : kx = 10
      · subst k10
        by_cases hl : m = 16
        · subst hl
          have h5 : c ≠ 5 := by have := HL.out.2; omega
          obtain rfl := HO6.out.2 h5
          clear h5
          as_aux_lemma =>
            obtain ⟨iX15, X15, KX15, fX15, gX15, HX15⟩ := val8 HB 4 5 rfl (by have := HL.out; omega)
            obtain ⟨iX16, X16, KX16, fX16, gX16, HX16⟩ := val8 HB 12 13 rfl (by have := HL.out; omega)
            go_upto_region 25 with (fail)
            have hs8 : (8 : Int) ≤ ((c - 5 : Nat) : Int) := by have := HL.out.2; omega
            have hs16 : (16 : Int) ≤ ((c - 5 : Nat) : Int) := by have := HL.out.2; omega
            have hq8 : ¬ ((c - 5 : Nat) : Int) = 8 := by have := HL.out.2; omega
            have hr8 : ¬ c - 5 = 8 := by have := HL.out.2; omega
            obtain ⟨v15, z15⟩ := Doc.at S2 15 (.int .i64 0) rfl
            go_wp2_with fail
            refine (KX15.out w2 _ S2.out.n).mono ?_
            rintro e w' ⟨rfl, hw⟩
            rw [hw]
            clear hw w'
            go_upto_region 26 with (fail)
            obtain ⟨wB, hwB, SB, hbB, u0⟩ := Doc.set S2 HME 15 (.int .i64 X15) (rwQ ⟨10, I0, 0, [], 0, 0, 0, 0, 0, 0, 0, 0, 0, 0, 0, X15, 0⟩) 10 rfl rfl
            rw [hwB]
            clear hwB
            obtain ⟨v16, z16⟩ := Doc.at SB 16 (.int .i64 0) rfl
            go_wp2_with fail
            refine (KX16.out wB _ SB.out.n).mono ?_
            rintro e w' ⟨rfl, hw⟩
            rw [hw]
            clear hw w'
            go_wp2_with fail
            go_meet
            obtain ⟨w3, hw3, S3, hb3, u0⟩ := Doc.set SB HME 16 (.int .i64 X16) (rwQ ⟨10, I0, 0, [], 0, 0, 0, 0, 0, 0, 0, 0, 0, 0, 0, X15, X16⟩) 10 rfl rfl
            rw [hw3]
            clear hw3
            have := HI0R.out
            exact ⟨_, none, 0, Lib.hid (AtEnd.of S3 rfl (by simp [rawQ, Rq.zero, HL.out.1, HI0.out, HX15.out, HX16.out]))⟩
        · have jl : ((m : Int) == 16) = false := by simp; omega
          have HWL := Lib.hid hl
          as_aux_lemma =>
            go_wp2_with fail
            go_meet
            have h := HWL.out
            have h1 := HL.out.1
            have := HI0R.out
            exact ⟨_, none, 0, Lib.hid (AtEnd.of S2 rfl (by simp [rawQ, Rq.zero, HI0.out, h1, h]))⟩
      by_cases k2 : kx = 2
      · subst k2
        as_aux_lemma =>
          obtain ⟨i0, hi0, hz0, hz1, hz2⟩ := info_parts infoU8
          have HL1 := Lib.hid hi0
          have HL2 := Lib.hid hz0
          have HL3 := Lib.hid hz1
          have HL4 := Lib.hid hz2
          have HML := Lib.hid (show (bs.drop 4).length = m by have := HL.out.1; simp; omega)
          have HRD := Lib.hid (show BytesAt w2 (some ⟨b, o6, none⟩) (bs.drop 4) by
            by_cases h5 : c = 5
            · have h : bs.drop 4 = [] := List.eq_nil_of_length_eq_zero (by have := HL.out; simp; omega)
              rw [h]; exact .inl rfl
            · obtain rfl := HO6.out.2 h5
              have h := HB.out.cut c (k := 5) (by have := HL.out.1; rw [List.length_cons]; omega) (by have := HL.out; rw [List.length_cons]; omega)
              rw [if_neg h5] at h; simp only [Option.map, add_plain, List.drop_succ_cons] at h; exact Rd.nw h S2.out.n)
          clear hi0 hz0 hz1 hz2
          go_upto_region 12 with (fail)
          clear u0
          go_wp2_with (at_builtin; refine wpList_append_at w2 rfl _ _ _ rfl 5 i0 _ 1 1 Try.underlying22 HL1.out HL2.out HL3.out HL4.out rfl (by omega) _ 0 [] none rfl (Own.nil _ _ _) _ m (c - 5) (bcells (bs.drop 4)) rfl (by rw [bcells_length]; have := HML.out; omega) HRD.out (bcells_one _) (by have := HQ5.out; simp only [maxLen]; omega) (by have := HQ5.out; omega) ?_; intro A2 c2 w4 blk2 hown hchg hat; simp only [Nat.zero_add, List.nil_append] at hown ⊢; have HO4 := Lib.hid hown; have HA4 := Lib.hid hat; have S4 := Lib.hid (S2.out.nw (hchg.below (fun i _ q => by cases q) (Nat.le_refl _))); have u0 : w4.cell? ⟨M, 0, none⟩ = some (.int .i64 2) := (S4.out.m.cell 0).trans rfl; obtain ⟨v3, z3⟩ := Doc.at S4 3 (.slice none 0 0) rfl; clear hown hchg hat)
          go_meet
          obtain ⟨w3, hw3⟩ : ∃ W, w4.setCell ⟨M, 3, none⟩ (.slice A2 m c2) = W := ⟨_, rfl⟩
          have S3 := S4.out.set1 HME.out 3 (.slice A2 m c2)
          rw [hw3] at S3 ⊢
          have HFAR : ∀ g, g ≤ M → (bs.drop 4 = [] ∨ ∃ a, A2 = some a ∧ a.block ≠ g) := fun g hg => by
            rcases own_far HO4.out with h | ⟨a, h1, h2⟩
            · exact .inl h
            · refine .inr ⟨a, h1, ?_⟩
              rcases HA4.out with h | h
              · rw [h] at h2; cases h2
              · rw [h] at h2; injection h2 with h2
                have := S2.out.m.lt; omega
          have h4 : BytesAt w4 A2 (bs.drop 4) := by
            obtain ⟨_, _, e2, hrd, hnc, _⟩ := HO4.out.rd
            injection e2 with e3 _ e4
            subst e3 e4
            exact hrd
          have := HI0R.out; have := HL.out.1; have := HQ5.out
          exact ⟨⟨2, I0, 0, bs.drop 4, 0, 0, 0, 0, 0, 0, 0, 0, 0, 0, 0, 0, 0⟩, A2, c2, Lib.hid ⟨by simp only [Rq.c]; rw [HML.out]; exact S3.m, S3.r, S3.z, S3.n, bytes_setCell h4 hw3 (HFAR M (Nat.le_refl _)), HFAR w.heap.size (by have := HME.out; omega), by refine ⟨?_, ?_, ⟨?_, ?_⟩, ⟨?_, ?_⟩, ⟨?_, ?_⟩, ⟨?_, ?_⟩, ?_, ?_, ⟨?_, ?_⟩, ?_, ?_⟩ <;> dsimp only <;> omega, by refine ⟨⟨?_, ?_⟩, ⟨?_, ?_⟩, ?_⟩ <;> dsimp only <;> first | omega | (simp; try omega), by simp [rawQ, Rq.zero, HI0.out]⟩⟩
      have j1 : ((kx : Int) == 1) = false := by simp; omega
      have j2 : ((kx : Int) == 2) = false := by simp; omega
      have j3 : ((kx : Int) == 3) = false := by simp; omega
      have j4 : ((kx : Int) == 4) = false := by simp; omega
      have j5 : ((kx : Int) == 5) = false := by simp; omega
      have j6 : ((kx : Int) == 6) = false := by simp; omega
      have j10 : ((kx : Int) == 10) = false := by simp; omega
      have HKK := Lib.hid (show kx ≠ 1 ∧ kx ≠ 2 ∧ kx ≠ 3 ∧ kx ≠ 4 ∧ kx ≠ 5 ∧ kx ≠ 6 ∧ kx ≠ 10 from ⟨k1, k2, k3, k4, k5, k6, k10⟩)
      as_aux_lemma =>
        go_wp2_with fail
        go_meet
        obtain ⟨h1, h2, h3, h4, h5, h6, h10⟩ := HKK.out
        have := HI0R.out; have := HXX.out
        exact ⟨_, none, 0, Lib.hid (AtEnd.of S2 rfl (by simp [rawQ, Rq.zero, HI0.out, h1, h2, h3, h4, h5, h6, h10]))⟩
    case rest =>
      obtain ⟨Q, A', c', HE⟩ := hcut
      go_upto_region 27 with (fail)
      have HQM := Lib.hid HE.out.m
      have HR3 := Lib.hid HE.out.r
      have HN3 := Lib.hid HE.out.z
      have N3 := Lib.hid HE.out.n
      have HQA := Lib.hid HE.out.a
      have HAB := Lib.hid HE.out.f
      have HIN := Lib.hid HE.out.i
      have HRI := Lib.hid HE.out.b
      have HD7 := Lib.hid (show D = if mayQ Q = true ∧ beW Q.k 1 ++ askB Q = x :: bs then (Q, 0) else (Rq.zero, 14) by rw [← HDD.out, ← HE.out.q, ← HKX.out]; exact dec7Q_cons x bs (by rw [HKX.out]; exact HXX.out) (by have := HL.out.1; omega))
      have HI := Lib.hid (show (Try.prog.info? 33).map (·.size) = some ((Q.c (A') (c')).toArray).size from rfl)
      have HO := Lib.hid (show ((Q.c (A') (c')).toArray).all (·.oneCell') = true by simp [Rq.c, Value.oneCell'])
      have HSW := Lib.hid (fun W (hW : Nw wc W) => (⟨hW, HQM.out.below hW HQM.out.lt⟩ : Nw wc W ∧ Blk W M 33 (Q.c (A') (c')).toArray))
      obtain ⟨BB, hBB⟩ : ∃ BB, x :: bs = BB := ⟨_, rfl⟩
      have HB3 := Lib.hid (show BytesAt wc (some ⟨b, off, none⟩) BB by rw [← hBB]; exact Rd.nw HB.out N3.out)
      have HBL := Lib.hid (show BB.length = m + 5 by rw [← hBB]; have := HL.out.1; rw [List.length_cons]; omega)
      rw [hBB] at HD7
      obtain ⟨L8, hL8⟩ : ∃ L, beW Q.k 1 ++ askB Q = L := ⟨_, rfl⟩
      rw [hL8] at HD7
      have HL8 := Lib.hid hL8
      clear hL8 hBB
      by_cases hmay : mayQ Q = true
      · by_cases he : L8 = BB
        · have hDV : D = (Q, 0) := by rw [HD7.out, if_pos ⟨hmay, he⟩]
          rw [he] at HL8
          clear he
          as_aux_lemma =>
            refine wp_region_F (fun W => Nw wc W ∧ Blk W M 33 (Q.c (A') (c')).toArray) [10] (by kernel_rfl) ?_
            have hS := HSW.out wc.drew (Nw.refl wc).drew
            refine wpAnyF_takeT (i := 0) (v := ?_) rfl (by kernel_rfl) (by kernel_rfl) (by kernel_rfl) (by kernel_rfl) (by kernel_rfl) (by kernel_rfl) (fun _ _ _ h => h) (by rfl) ?_ hS ?_
            rotate_left
            · intro u hu
              try simp only [List.getElem_toArray, List.getElem_cons_succ, List.getElem_cons_zero]
              refine Eq.trans (exec_load_row 33 _ rfl M rfl 33 (Q.c (A') (c')).toArray (0, 0) (.struct d) hu.2 HD.out rfl HI.out) ?_
              with_reducible rfl
            try simp only [List.getElem_toArray, List.getElem_cons_succ, List.getElem_cons_zero, Act.put, List.setIfInBounds_toArray, List.set_cons_zero, List.set_cons_succ]
            refine wpAnyF_step (i := 1) (by kernel_rfl) rfl (by rfl) fun K hK => ?_
            go_simp
            go_at_call 18
            refine (may7_in wc.drew Q (A') (c') (show BytesAt wc.drew _ _ from Rd.nw HQA.out (Nw.refl wc).drew) (HRI.out.md) HIN.out).mono ?_
            rintro e w4 ⟨rfl, n4⟩
            rw [hmay]
            have i4 : Nw wc w4 := Nw.step (Nw.refl wc).drew n4
            clear n4
            have hS := HSW.out w4 i4
            refine hK _ _ (.inr (HSW.out w4 i4)) ?_
            clear hK K
            try simp only [List.getElem_toArray, List.getElem_cons_succ, List.getElem_cons_zero, Act.put, List.setIfInBounds_toArray, List.set_cons_zero, List.set_cons_succ]
            refine wpAnyF_freeT (i := 2) (v := ?_) rfl (by kernel_rfl) (by kernel_rfl) (by kernel_rfl) (by kernel_rfl) (by kernel_rfl) (fun _ _ _ h => h) (by rfl) ?_ hS ?_
            rotate_left
            · intro u
              go_simp
              try with_reducible rfl
            try simp only [List.getElem_toArray, List.getElem_cons_succ, List.getElem_cons_zero, Act.put, List.setIfInBounds_toArray, List.set_cons_zero, List.set_cons_succ]
            refine wpAnyF_freeT (i := 3) (v := ?_) rfl (by kernel_rfl) (by kernel_rfl) (by kernel_rfl) (by kernel_rfl) (by kernel_rfl) (fun _ _ _ h => h) (by rfl) ?_ hS ?_
            rotate_left
            · intro u
              go_simp
              try with_reducible rfl
            try simp only [List.getElem_toArray, List.getElem_cons_succ, List.getElem_cons_zero, Act.put, List.setIfInBounds_toArray, List.set_cons_zero, List.set_cons_succ]
            refine wpAnyF_takeT (i := 4) (v := ?_) rfl (by kernel_rfl) (by kernel_rfl) (by kernel_rfl) (by kernel_rfl) (by kernel_rfl) (by kernel_rfl) (fun _ _ _ h => h) (by rfl) ?_ hS ?_
            rotate_left
            · intro u hu
              try simp only [List.getElem_toArray, List.getElem_cons_succ, List.getElem_cons_zero]
              refine Eq.trans (exec_load_row 33 _ rfl M rfl 33 (Q.c (A') (c')).toArray (0, 0) (.struct d) hu.2 HD.out rfl HI.out) ?_
              with_reducible rfl
            try simp only [List.getElem_toArray, List.getElem_cons_succ, List.getElem_cons_zero, Act.put, List.setIfInBounds_toArray, List.set_cons_zero, List.set_cons_succ]
            refine wpAnyF_freeT (i := 7) (v := ?_) rfl (by kernel_rfl) (by kernel_rfl) (by kernel_rfl) (by kernel_rfl) (by kernel_rfl) (fun _ _ _ h => h) (by rfl) ?_ hS ?_
            rotate_left
            · intro u
              go_simp
              try with_reducible rfl
            try simp only [List.getElem_toArray, List.getElem_cons_succ, List.getElem_cons_zero, Act.put, List.setIfInBounds_toArray, List.set_cons_zero, List.set_cons_succ]
            refine wpAnyF_takeT (i := 8) (v := ?_) rfl (by kernel_rfl) (by kernel_rfl) (by kernel_rfl) (by kernel_rfl) (by kernel_rfl) (by kernel_rfl) (fun _ _ _ h => h) (by rfl) ?_ hS ?_
            rotate_left
            · intro u hu
              have s8 := BytesAt.str (show BytesAt u (some ⟨b, off, none⟩) BB from Rd.nw HB3.out hu.1) 22 5 9 c Try.underlying22 Try.underlying5 Try.underlying9
              rw [HBL.out] at s8
              go_simp
              try with_reducible rfl
            try simp only [List.getElem_toArray, List.getElem_cons_succ, List.getElem_cons_zero, Act.put, List.setIfInBounds_toArray, List.set_cons_zero, List.set_cons_succ]
            refine wpAnyF_step (i := 5) (by kernel_rfl) rfl (by rfl) fun K hK => ?_
            go_simp
            go_at_call 20
            refine (encr7_any w4 Q (A') (c') (show BytesAt w4 _ _ from Rd.nw HQA.out i4) HRI.out ⟨HIN.out.1, HIN.out.2.1⟩).mono ?_
            rintro e w5 ⟨A8, c8, rfl, hb8, hc8, n5⟩
            have i5 : Nw wc w5 := Nw.step i4 n5
            rw [HL8.out] at hb8 hc8 ⊢
            have s6 := BytesAt.str hb8 22 5 9 c8 Try.underlying22 Try.underlying5 Try.underlying9
            clear hb8 hc8 n5
            have hS := HSW.out w5 i5
            refine hK _ _ (.inr (HSW.out w5 i5)) ?_
            clear hK K
            try simp only [List.getElem_toArray, List.getElem_cons_succ, List.getElem_cons_zero, Act.put, List.setIfInBounds_toArray, List.set_cons_zero, List.set_cons_succ]
            refine wpAnyF_step (i := 6) (by kernel_rfl) rfl (by rfl) fun K hK => ?_
            go_simp
            refine hK _ _ (.inr hS) ?_
            clear hK K
            try simp only [List.getElem_toArray, List.getElem_cons_succ, List.getElem_cons_zero, Act.put, List.setIfInBounds_toArray, List.set_cons_zero, List.set_cons_succ]
            refine wpAnyF_step (i := 9) (by kernel_rfl) rfl (by rfl) fun K hK => ?_
            go_simp
            refine hK _ _ (.inr hS) ?_
            clear hK K
            try simp only [List.getElem_toArray, List.getElem_cons_succ, List.getElem_cons_zero, Act.put, List.setIfInBounds_toArray, List.set_cons_zero, List.set_cons_succ]
            refine wpAnyF_step (i := 10) (by kernel_rfl) rfl (by rfl) fun K hK => ?_
            go_simp
            refine hK _ _ (.inl (by kernel_rfl)) ?_
            clear hK K
            try simp only [List.getElem_toArray, List.getElem_cons_succ, List.getElem_cons_zero, Act.put, List.setIfInBounds_toArray, List.set_cons_zero, List.set_cons_succ]
            refine wpAnyF_done (by kernel_rfl) ?_ _
            have HNW := Lib.hid (HN3.out.below i5 HN3.out.lt)
            have HMW := Lib.hid (HQM.out.below i5 HQM.out.lt)
            have HRW := Lib.hid (HR3.out.below i5 HR3.out.lt)
            have HNF := Lib.hid (Nw.trans N3.out i5)
            have HQF := Lib.hid (show BytesAt w5 (A') Q.md from Rd.nw HQA.out i5)
            go_wp2_with (first | (refine wpList_load_row rfl 33 _ rfl (w.heap.size + 1) rfl 33 #[.int .i64 0, .int .u32 0, .int .i64 0, .slice none 0 0, .int .i64 0, .int .i64 0, .int .i64 0, .int .i64 0, .int .i64 0, .int .i64 0, .int .u32 0, .int .i64 0, .int .i64 0, .int .i64 0, .int .i64 0, .int .i64 0, .int .i64 0] (0, 0) (.struct d) HNW.out HD.out rfl HJ.out ?_) | (refine wpList_load_row rfl 33 _ rfl M rfl 33 (Q.c (A') (c')).toArray (0, 0) (.struct d) HMW.out HD.out rfl HI.out ?_) | (refine wpList_store_row rfl 33 _ _ rfl w.heap.size (Q.c (A') (c')).toArray rfl rfl 33 _ HRW.out HI.out rfl HO.out ?_))
            exact bodyPost_ret (results_rowB rfl _ _ w.heap.size 33 (Q.c (A') (c')).toArray (0, 0) ⟨d, rfl⟩ rfl (setRow_heap w5 w.heap.size _ (Q.c (A') (c')).toArray 33 _ HRW.out) HD.out HI.out) rfl ⟨A', c', by first | (rw [hDV]; rfl) | rfl, (by first | (rw [hDV]; exact bytes_setRow HQF.out HAB.out _) | exact bytes_setRow HQF.out HAB.out _), below_setRow HNF.out (Nat.le_refl _) _⟩
        · have hDV : D = (Rq.zero, 14) := by rw [HD7.out, if_neg (fun h => he h.2)]
          have hne : ¬ ((⟨L8.toArray⟩ : ByteArray) = ⟨BB.toArray⟩) := fun e => he (by have := congrArg ByteArray.data e; simpa using this)
          have he2 : (L8 == BB) = false := by simpa using he
          as_aux_lemma =>
            refine wp_region_F (fun W => Nw wc W ∧ Blk W M 33 (Q.c (A') (c')).toArray) [10] (by kernel_rfl) ?_
            have hS := HSW.out wc.drew (Nw.refl wc).drew
            refine wpAnyF_takeT (i := 0) (v := ?_) rfl (by kernel_rfl) (by kernel_rfl) (by kernel_rfl) (by kernel_rfl) (by kernel_rfl) (by kernel_rfl) (fun _ _ _ h => h) (by rfl) ?_ hS ?_
            rotate_left
            · intro u hu
              try simp only [List.getElem_toArray, List.getElem_cons_succ, List.getElem_cons_zero]
              refine Eq.trans (exec_load_row 33 _ rfl M rfl 33 (Q.c (A') (c')).toArray (0, 0) (.struct d) hu.2 HD.out rfl HI.out) ?_
              with_reducible rfl
            try simp only [List.getElem_toArray, List.getElem_cons_succ, List.getElem_cons_zero, Act.put, List.setIfInBounds_toArray, List.set_cons_zero, List.set_cons_succ]
            refine wpAnyF_step (i := 1) (by kernel_rfl) rfl (by rfl) fun K hK => ?_
            go_simp
            go_at_call 18
            refine (may7_in wc.drew Q (A') (c') (show BytesAt wc.drew _ _ from Rd.nw HQA.out (Nw.refl wc).drew) (HRI.out.md) HIN.out).mono ?_
            rintro e w4 ⟨rfl, n4⟩
            rw [hmay]
            have i4 : Nw wc w4 := Nw.step (Nw.refl wc).drew n4
            clear n4
            have hS := HSW.out w4 i4
            refine hK _ _ (.inr (HSW.out w4 i4)) ?_
            clear hK K
            try simp only [List.getElem_toArray, List.getElem_cons_succ, List.getElem_cons_zero, Act.put, List.setIfInBounds_toArray, List.set_cons_zero, List.set_cons_succ]
            refine wpAnyF_freeT (i := 2) (v := ?_) rfl (by kernel_rfl) (by kernel_rfl) (by kernel_rfl) (by kernel_rfl) (by kernel_rfl) (fun _ _ _ h => h) (by rfl) ?_ hS ?_
            rotate_left
            · intro u
              go_simp
              try with_reducible rfl
            try simp only [List.getElem_toArray, List.getElem_cons_succ, List.getElem_cons_zero, Act.put, List.setIfInBounds_toArray, List.set_cons_zero, List.set_cons_succ]
            refine wpAnyF_freeT (i := 3) (v := ?_) rfl (by kernel_rfl) (by kernel_rfl) (by kernel_rfl) (by kernel_rfl) (by kernel_rfl) (fun _ _ _ h => h) (by rfl) ?_ hS ?_
            rotate_left
            · intro u
              go_simp
              try with_reducible rfl
            try simp only [List.getElem_toArray, List.getElem_cons_succ, List.getElem_cons_zero, Act.put, List.setIfInBounds_toArray, List.set_cons_zero, List.set_cons_succ]
            refine wpAnyF_takeT (i := 4) (v := ?_) rfl (by kernel_rfl) (by kernel_rfl) (by kernel_rfl) (by kernel_rfl) (by kernel_rfl) (by kernel_rfl) (fun _ _ _ h => h) (by rfl) ?_ hS ?_
            rotate_left
            · intro u hu
              try simp only [List.getElem_toArray, List.getElem_cons_succ, List.getElem_cons_zero]
              refine Eq.trans (exec_load_row 33 _ rfl M rfl 33 (Q.c (A') (c')).toArray (0, 0) (.struct d) hu.2 HD.out rfl HI.out) ?_
              with_reducible rfl
            try simp only [List.getElem_toArray, List.getElem_cons_succ, List.getElem_cons_zero, Act.put, List.setIfInBounds_toArray, List.set_cons_zero, List.set_cons_succ]
            refine wpAnyF_freeT (i := 7) (v := ?_) rfl (by kernel_rfl) (by kernel_rfl) (by kernel_rfl) (by kernel_rfl) (by kernel_rfl) (fun _ _ _ h => h) (by rfl) ?_ hS ?_
            rotate_left
            · intro u
              go_simp
              try with_reducible rfl
            try simp only [List.getElem_toArray, List.getElem_cons_succ, List.getElem_cons_zero, Act.put, List.setIfInBounds_toArray, List.set_cons_zero, List.set_cons_succ]
            refine wpAnyF_takeT (i := 8) (v := ?_) rfl (by kernel_rfl) (by kernel_rfl) (by kernel_rfl) (by kernel_rfl) (by kernel_rfl) (by kernel_rfl) (fun _ _ _ h => h) (by rfl) ?_ hS ?_
            rotate_left
            · intro u hu
              have s8 := BytesAt.str (show BytesAt u (some ⟨b, off, none⟩) BB from Rd.nw HB3.out hu.1) 22 5 9 c Try.underlying22 Try.underlying5 Try.underlying9
              rw [HBL.out] at s8
              go_simp
              try with_reducible rfl
            try simp only [List.getElem_toArray, List.getElem_cons_succ, List.getElem_cons_zero, Act.put, List.setIfInBounds_toArray, List.set_cons_zero, List.set_cons_succ]
            refine wpAnyF_step (i := 5) (by kernel_rfl) rfl (by rfl) fun K hK => ?_
            go_simp
            go_at_call 20
            refine (encr7_any w4 Q (A') (c') (show BytesAt w4 _ _ from Rd.nw HQA.out i4) HRI.out ⟨HIN.out.1, HIN.out.2.1⟩).mono ?_
            rintro e w5 ⟨A8, c8, rfl, hb8, hc8, n5⟩
            have i5 : Nw wc w5 := Nw.step i4 n5
            rw [HL8.out] at hb8 hc8 ⊢
            have s6 := BytesAt.str hb8 22 5 9 c8 Try.underlying22 Try.underlying5 Try.underlying9
            clear hb8 hc8 n5
            have hS := HSW.out w5 i5
            refine hK _ _ (.inr (HSW.out w5 i5)) ?_
            clear hK K
            try simp only [List.getElem_toArray, List.getElem_cons_succ, List.getElem_cons_zero, Act.put, List.setIfInBounds_toArray, List.set_cons_zero, List.set_cons_succ]
            refine wpAnyF_step (i := 6) (by kernel_rfl) rfl (by rfl) fun K hK => ?_
            go_simp
            refine hK _ _ (.inr hS) ?_
            clear hK K
            try simp only [List.getElem_toArray, List.getElem_cons_succ, List.getElem_cons_zero, Act.put, List.setIfInBounds_toArray, List.set_cons_zero, List.set_cons_succ]
            refine wpAnyF_step (i := 9) (by kernel_rfl) rfl (by rfl) fun K hK => ?_
            go_simp
            refine hK _ _ (.inr hS) ?_
            clear hK K
            try simp only [List.getElem_toArray, List.getElem_cons_succ, List.getElem_cons_zero, Act.put, List.setIfInBounds_toArray, List.set_cons_zero, List.set_cons_succ]
            refine wpAnyF_step (i := 10) (by kernel_rfl) rfl (by rfl) fun K hK => ?_
            go_simp
            refine hK _ _ (.inl (by kernel_rfl)) ?_
            clear hK K
            try simp only [List.getElem_toArray, List.getElem_cons_succ, List.getElem_cons_zero, Act.put, List.setIfInBounds_toArray, List.set_cons_zero, List.set_cons_succ]
            refine wpAnyF_done (by kernel_rfl) ?_ _
            have HNW := Lib.hid (HN3.out.below i5 HN3.out.lt)
            have HMW := Lib.hid (HQM.out.below i5 HQM.out.lt)
            have HRW := Lib.hid (HR3.out.below i5 HR3.out.lt)
            have HNF := Lib.hid (Nw.trans N3.out i5)
            have HQF := Lib.hid (show BytesAt w5 (A') Q.md from Rd.nw HQA.out i5)
            go_wp2_with (first | (refine wpList_load_row rfl 33 _ rfl (w.heap.size + 1) rfl 33 #[.int .i64 0, .int .u32 0, .int .i64 0, .slice none 0 0, .int .i64 0, .int .i64 0, .int .i64 0, .int .i64 0, .int .i64 0, .int .i64 0, .int .u32 0, .int .i64 0, .int .i64 0, .int .i64 0, .int .i64 0, .int .i64 0, .int .i64 0] (0, 0) (.struct d) HNW.out HD.out rfl HJ.out ?_) | (refine wpList_load_row rfl 33 _ rfl M rfl 33 (Q.c (A') (c')).toArray (0, 0) (.struct d) HMW.out HD.out rfl HI.out ?_) | (refine wpList_store_row rfl 33 _ _ rfl w.heap.size #[.int .i64 0, .int .u32 0, .int .i64 0, .slice none 0 0, .int .i64 0, .int .i64 0, .int .i64 0, .int .i64 0, .int .i64 0, .int .i64 0, .int .u32 0, .int .i64 0, .int .i64 0, .int .i64 0, .int .i64 0, .int .i64 0, .int .i64 0] rfl rfl 33 _ HRW.out HJ.out rfl H2.out ?_))
            exact bodyPost_ret (results_rowB rfl _ _ w.heap.size 33 #[.int .i64 0, .int .u32 0, .int .i64 0, .slice none 0 0, .int .i64 0, .int .i64 0, .int .i64 0, .int .i64 0, .int .i64 0, .int .i64 0, .int .u32 0, .int .i64 0, .int .i64 0, .int .i64 0, .int .i64 0, .int .i64 0, .int .i64 0] (0, 0) ⟨d, rfl⟩ rfl (setRow_heap w5 w.heap.size _ #[.int .i64 0, .int .u32 0, .int .i64 0, .slice none 0 0, .int .i64 0, .int .i64 0, .int .i64 0, .int .i64 0, .int .i64 0, .int .i64 0, .int .u32 0, .int .i64 0, .int .i64 0, .int .i64 0, .int .i64 0, .int .i64 0, .int .i64 0] 33 _ HRW.out) HD.out HJ.out) rfl ⟨none, 0, by first | (rw [hDV]; rfl) | rfl, .inl (by first | (rw [hDV]; rfl) | rfl), below_setRow HNF.out (Nat.le_refl _) _⟩
      · have hDV : D = (Rq.zero, 14) := by rw [HD7.out, if_neg (fun h => hmay h.1)]
        replace hmay : mayQ Q = false := by simpa using hmay
        as_aux_lemma =>
          refine wp_region_F (fun W => Nw wc W ∧ Blk W M 33 (Q.c (A') (c')).toArray) [10] (by kernel_rfl) ?_
          have hS := HSW.out wc.drew (Nw.refl wc).drew
          refine wpAnyF_takeT (i := 0) (v := ?_) rfl (by kernel_rfl) (by kernel_rfl) (by kernel_rfl) (by kernel_rfl) (by kernel_rfl) (by kernel_rfl) (fun _ _ _ h => h) (by rfl) ?_ hS ?_
          rotate_left
          · intro u hu
            try simp only [List.getElem_toArray, List.getElem_cons_succ, List.getElem_cons_zero]
            refine Eq.trans (exec_load_row 33 _ rfl M rfl 33 (Q.c (A') (c')).toArray (0, 0) (.struct d) hu.2 HD.out rfl HI.out) ?_
            with_reducible rfl
          try simp only [List.getElem_toArray, List.getElem_cons_succ, List.getElem_cons_zero, Act.put, List.setIfInBounds_toArray, List.set_cons_zero, List.set_cons_succ]
          refine wpAnyF_step (i := 1) (by kernel_rfl) rfl (by rfl) fun K hK => ?_
          go_simp
          go_at_call 18
          refine (may7_in wc.drew Q (A') (c') (show BytesAt wc.drew _ _ from Rd.nw HQA.out (Nw.refl wc).drew) (HRI.out.md) HIN.out).mono ?_
          rintro e w4 ⟨rfl, n4⟩
          rw [hmay]
          have i4 : Nw wc w4 := Nw.step (Nw.refl wc).drew n4
          clear n4
          have hS := HSW.out w4 i4
          refine hK _ _ (.inr (HSW.out w4 i4)) ?_
          clear hK K
          try simp only [List.getElem_toArray, List.getElem_cons_succ, List.getElem_cons_zero, Act.put, List.setIfInBounds_toArray, List.set_cons_zero, List.set_cons_succ]
          refine wpAnyF_freeT (i := 2) (v := ?_) rfl (by kernel_rfl) (by kernel_rfl) (by kernel_rfl) (by kernel_rfl) (by kernel_rfl) (fun _ _ _ h => h) (by rfl) ?_ hS ?_
          rotate_left
          · intro u
            go_simp
            try with_reducible rfl
          try simp only [List.getElem_toArray, List.getElem_cons_succ, List.getElem_cons_zero, Act.put, List.setIfInBounds_toArray, List.set_cons_zero, List.set_cons_succ]
          refine wpAnyF_freeT (i := 3) (v := ?_) rfl (by kernel_rfl) (by kernel_rfl) (by kernel_rfl) (by kernel_rfl) (by kernel_rfl) (fun _ _ _ h => h) (by rfl) ?_ hS ?_
          rotate_left
          · intro u
            go_simp
            try with_reducible rfl
          try simp only [List.getElem_toArray, List.getElem_cons_succ, List.getElem_cons_zero, Act.put, List.setIfInBounds_toArray, List.set_cons_zero, List.set_cons_succ]
          refine wpAnyF_leaveT (i := 4) rfl (by kernel_rfl) (by kernel_rfl) (by kernel_rfl) (by kernel_rfl) (by kernel_rfl) (fun _ _ _ h => h) (by rfl) hS ?_
          try simp only [List.getElem_toArray, List.getElem_cons_succ, List.getElem_cons_zero, Act.put, List.setIfInBounds_toArray, List.set_cons_zero, List.set_cons_succ]
          refine wpAnyF_leaveT (i := 5) rfl (by kernel_rfl) (by kernel_rfl) (by kernel_rfl) (by kernel_rfl) (by kernel_rfl) (fun _ _ _ h => h) (by rfl) hS ?_
          try simp only [List.getElem_toArray, List.getElem_cons_succ, List.getElem_cons_zero, Act.put, List.setIfInBounds_toArray, List.set_cons_zero, List.set_cons_succ]
          refine wpAnyF_leaveT (i := 6) rfl (by kernel_rfl) (by kernel_rfl) (by kernel_rfl) (by kernel_rfl) (by kernel_rfl) (fun _ _ _ h => h) (by rfl) hS ?_
          try simp only [List.getElem_toArray, List.getElem_cons_succ, List.getElem_cons_zero, Act.put, List.setIfInBounds_toArray, List.set_cons_zero, List.set_cons_succ]
          refine wpAnyF_leaveT (i := 7) rfl (by kernel_rfl) (by kernel_rfl) (by kernel_rfl) (by kernel_rfl) (by kernel_rfl) (fun _ _ _ h => h) (by rfl) hS ?_
          try simp only [List.getElem_toArray, List.getElem_cons_succ, List.getElem_cons_zero, Act.put, List.setIfInBounds_toArray, List.set_cons_zero, List.set_cons_succ]
          refine wpAnyF_leaveT (i := 8) rfl (by kernel_rfl) (by kernel_rfl) (by kernel_rfl) (by kernel_rfl) (by kernel_rfl) (fun _ _ _ h => h) (by rfl) hS ?_
          try simp only [List.getElem_toArray, List.getElem_cons_succ, List.getElem_cons_zero, Act.put, List.setIfInBounds_toArray, List.set_cons_zero, List.set_cons_succ]
          refine wpAnyF_leaveT (i := 9) rfl (by kernel_rfl) (by kernel_rfl) (by kernel_rfl) (by kernel_rfl) (by kernel_rfl) (fun _ _ _ h => h) (by rfl) hS ?_
          try simp only [List.getElem_toArray, List.getElem_cons_succ, List.getElem_cons_zero, Act.put, List.setIfInBounds_toArray, List.set_cons_zero, List.set_cons_succ]
          refine wpAnyF_step (i := 10) (by kernel_rfl) rfl (by rfl) fun K hK => ?_
          go_simp
          refine hK _ _ (.inl (by kernel_rfl)) ?_
          clear hK K
          try simp only [List.getElem_toArray, List.getElem_cons_succ, List.getElem_cons_zero, Act.put, List.setIfInBounds_toArray, List.set_cons_zero, List.set_cons_succ]
          refine wpAnyF_done (by kernel_rfl) ?_ _
          have HNW := Lib.hid (HN3.out.below i4 HN3.out.lt)
          have HMW := Lib.hid (HQM.out.below i4 HQM.out.lt)
          have HRW := Lib.hid (HR3.out.below i4 HR3.out.lt)
          have HNF := Lib.hid (Nw.trans N3.out i4)
          have HQF := Lib.hid (show BytesAt w4 (A') Q.md from Rd.nw HQA.out i4)
          go_wp2_with (first | (refine wpList_load_row rfl 33 _ rfl (w.heap.size + 1) rfl 33 #[.int .i64 0, .int .u32 0, .int .i64 0, .slice none 0 0, .int .i64 0, .int .i64 0, .int .i64 0, .int .i64 0, .int .i64 0, .int .i64 0, .int .u32 0, .int .i64 0, .int .i64 0, .int .i64 0, .int .i64 0, .int .i64 0, .int .i64 0] (0, 0) (.struct d) HNW.out HD.out rfl HJ.out ?_) | (refine wpList_load_row rfl 33 _ rfl M rfl 33 (Q.c (A') (c')).toArray (0, 0) (.struct d) HMW.out HD.out rfl HI.out ?_) | (refine wpList_store_row rfl 33 _ _ rfl w.heap.size #[.int .i64 0, .int .u32 0, .int .i64 0, .slice none 0 0, .int .i64 0, .int .i64 0, .int .i64 0, .int .i64 0, .int .i64 0, .int .i64 0, .int .u32 0, .int .i64 0, .int .i64 0, .int .i64 0, .int .i64 0, .int .i64 0, .int .i64 0] rfl rfl 33 _ HRW.out HJ.out rfl H2.out ?_))
          exact bodyPost_ret (results_rowB rfl _ _ w.heap.size 33 #[.int .i64 0, .int .u32 0, .int .i64 0, .slice none 0 0, .int .i64 0, .int .i64 0, .int .i64 0, .int .i64 0, .int .i64 0, .int .i64 0, .int .u32 0, .int .i64 0, .int .i64 0, .int .i64 0, .int .i64 0, .int .i64 0, .int .i64 0] (0, 0) ⟨d, rfl⟩ rfl (setRow_heap w4 w.heap.size _ #[.int .i64 0, .int .u32 0, .int .i64 0, .slice none 0 0, .int .i64 0, .int .i64 0, .int .i64 0, .int .i64 0, .int .i64 0, .int .i64 0, .int .u32 0, .int .i64 0, .int .i64 0, .int .i64 0, .int .i64 0, .int .i64 0, .int .i64 0] 33 _ HRW.out) HD.out HJ.out) rfl ⟨none, 0, by first | (rw [hDV]; rfl) | rfl, .inl (by first | (rw [hDV]; rfl) | rfl), below_setRow HNF.out (Nat.le_refl _) _⟩
theorem dec7_any (w : World) (A : Option Addr) (n c : Nat) (bs : List UInt8) (hb : BytesAt w A bs) (hn : bs.length = n) (hc : n ≤ c) (hm : n ≤ 90000) :
    Calls Try.prog 11 #[.slice A n c] w (Dec7 w (dec7Q bs)) := by
  cases bs with
  | nil =>
    obtain rfl : n = 0 := by simpa using hn.symm
    exact dec7_none w A c
  | cons x bs =>
    have hn : bs.length + 1 = n := by simpa using hn
    by_cases hx : x.toNat < 1 ∨ 12 < x.toNat
    · exact dec7_bad w A n c x bs hb hn hx
    by_cases hs : bs.length < 4
    · exact dec7_short w A n c x bs hb hn hx hs
    obtain ⟨m, rfl⟩ : ∃ m, n = m + 5 := ⟨n - 5, by omega⟩
    exact doc_any w A c m x bs hb (by omega) hc (by omega) hx
end Go.Proofs.Ytnbcjjgilndlaaa
