/- Messages: what the document decodes as a response, at any bytes. Helper. -/
import Derived.Test.YtnbcjjgilndlaaaRdRefT
import Derived.Test.YtnbcjjgilndlaaaRdDocP
namespace Go.Proofs.Ytnbcjjgilndlaaa
open Go.RowKit
set_option linter.unusedVariables false
set_option linter.unusedSimpArgs false
set_option maxRecDepth 100000
set_option maxHeartbeats 6400000
/-- A response's cells. -/
def rwS (q : Rs) : Array Value := (q.c none 0).toArray
/-- The cells of a response with i variables. -/
def rwV (X1 X3 : Int) (A : Option Addr) (i c : Nat) : Array Value := #[.int .i64 2, .int .u32 X1, .int .i64 0, .int .i64 X3, .slice A i c, .int .i64 0, .int .i64 0, .int .i64 0, .int .i64 0, .int .i64 0, .int .i64 0, .int .u32 0, .int .i64 0, .int .i64 0, .int .i64 0, .int .i64 0, .int .i64 0, .int .i64 0]
/-- Where the switch ends: the response that was put together. -/
structure AtEndS (w wx : World) (M : Nat) (Q : Rs) (A : Option Addr) (c : Nat) (k : Nat) (bs : List UInt8) : Prop where
  m : Blk wx M 42 (Q.c A c).toArray
  r : Blk wx w.heap.size 42 #[.int .i64 0, .int .u32 0, .int .i64 0, .int .i64 0, .slice none 0 0, .int .i64 0, .int .i64 0, .int .i64 0, .int .i64 0, .int .i64 0, .int .i64 0, .int .u32 0, .int .i64 0, .int .i64 0, .int .i64 0, .int .i64 0, .int .i64 0, .int .i64 0]
  z : Blk wx (w.heap.size + 1) 42 #[.int .i64 0, .int .u32 0, .int .i64 0, .int .i64 0, .slice none 0 0, .int .i64 0, .int .i64 0, .int .i64 0, .int .i64 0, .int .i64 0, .int .i64 0, .int .u32 0, .int .i64 0, .int .i64 0, .int .i64 0, .int .i64 0, .int .i64 0, .int .i64 0]
  n : Nw w wx
  a : IntsAt wx A Q.vs
  f : Q.vs = [] ∨ ∃ a, A = some a ∧ a.block ≠ w.heap.size
  i : inS Q ∨ (1 ≤ Q.k ∧ Q.k ≤ 5 ∧ 16 < Q.er)
  b : Q.In
  q : rawS k bs = Q
theorem AtEndS.of {w W : World} {M b k : Nat} {Q : Rs} {bs : List UInt8} (h : Hid (Doc 42 #[.int .i64 0, .int .u32 0, .int .i64 0, .int .i64 0, .slice none 0 0, .int .i64 0, .int .i64 0, .int .i64 0, .int .i64 0, .int .i64 0, .int .i64 0, .int .u32 0, .int .i64 0, .int .i64 0, .int .i64 0, .int .i64 0, .int .i64 0, .int .i64 0] w W M b (rwS Q))) (hm : Q.vs = []) (e : rawS k bs = Q)
    (hi : inS Q ∨ (1 ≤ Q.k ∧ Q.k ≤ 5 ∧ 16 < Q.er) := by left; refine ⟨?_, ?_, ?_, ?_, ?_, ⟨?_, ?_⟩, ⟨?_, ?_⟩, ⟨?_, ?_⟩, ⟨?_, ?_⟩, ⟨?_, ?_⟩, ⟨?_, ?_⟩⟩ <;> dsimp only <;> first | omega | (simp; try omega))
    (hb : Q.In := by refine ⟨⟨?_, ?_⟩, ⟨?_, ?_⟩, ⟨?_, ?_⟩, ?_⟩ <;> dsimp only <;> first | omega | (simp; try omega)) : AtEndS w W M Q none 0 k bs :=
  ⟨h.out.m, h.out.r, h.out.z, h.out.n, .inl (by rw [hm]; rfl), .inl hm, hi, hb, e⟩
/-- A key is read at o, in whatever world behind w. -/
def ReadsK (w : World) (b o n : Nat) (I J K : Int) : Prop := ∀ (W : World) (cc : Nat), Nw w W → n ≤ cc → Calls Try.prog 34 #[.slice (some ⟨b, o, none⟩) n cc] W fun e w' => e = .returned (.agg #[.int .i64 I, .int .i64 J, .int .i64 K]) ∧ Nw W w'
theorem valK {w : World} {b off : Nat} {x : UInt8} {bs : List UInt8} (hB : Hid (BytesAt w (some ⟨b, off, none⟩) (x :: bs))) (a o n a8 a9 : Nat) (ho : o = a + 1) (h8 : a8 = a + 8) (h9 : a9 = a + 9) (h : a + n = bs.length) (h17 : 17 ≤ n) :
    ∃ I J K : Int, Hid (ReadsK w b (off + o) n I J K) ∧ Hid (0 ≤ J ∧ J ≤ 255) ∧ Hid (s64 (beN ((bs.drop a).take 8)) = I) ∧ Hid ((beN ((bs.drop a8).take 1) : Int) = J) ∧ Hid (s64 (beN ((bs.drop a9).take 8)) = K) := by
  subst ho h8 h9
  refine ⟨_, _, _, fun W cc hW hc => ?_, (wrap_byte ((bs.drop (a + 8)).take 1) (by simp; omega)).2.2, rfl, rfl, rfl⟩
  have hcut := hB.out.cut (bs.length + 2) (k := a + 1) (by rw [List.length_cons]; omega) (by rw [List.length_cons]; omega)
  rw [if_neg (by omega)] at hcut
  simp only [Option.map, add_plain, List.drop_succ_cons] at hcut
  have h := at7_any W b (off + (a + 1)) n cc (bs.drop a) (show BytesAt W _ _ from Rd.nw hcut hW) (by rw [List.length_drop]; omega) h17 hc
  simp only [List.drop_drop] at h
  exact h
theorem own_farI {w : World} {e : TypeId} {A : Option Addr} {c n : Nat} {l : List Int} {blk : Option Nat} (h : Own w e 1 (.slice A n c) n (l.map fun n => .int .i64 n) blk) : l = [] ∨ ∃ a, A = some a ∧ blk = some a.block := by
  obtain ⟨hl, A', c', e1, hn, hm, h | ⟨g, off, cur, rfl, rfl, hg, h1, h2⟩⟩ := h
  · left
    have : (l.map fun n => Value.int .i64 n).length = 0 := by rw [hl]; obtain ⟨h3, _⟩ := h; omega
    simpa using this
  · injection e1 with e1 _ _
    exact .inr ⟨_, e1, rfl⟩
theorem own_ints {w : World} {e : TypeId} {A : Option Addr} {c n : Nat} {l : List Int} {blk : Option Nat} (h : Own w e 1 (.slice A n c) n (l.map fun n => .int .i64 n) blk) : IntsAt w A l := by
  obtain ⟨_, _, e2, hrd, hnc, _⟩ := h.rd
  injection e2 with e3 _ e4
  subst e3 e4
  exact hrd
theorem nums_snoc (bs : List UInt8) (i : Nat) : nums bs (i + 1) = nums bs i ++ [s64 (beN ((bs.drop (8 * i)).take 8))] := by
  unfold nums
  rw [List.range_succ, List.map_append]
  rfl
theorem vars_ne {m N : Nat} (h : ¬ m = 13 + 8 * N) : ((m : Int) == 13 + 8 * (N : Int)) = false := by simp; omega
theorem vars_eq {m N : Nat} (h : m = 13 + 8 * N) : ((m : Int) == 13 + 8 * (N : Int)) = true := by simp; omega
/-- The variables that were read. -/
structure VarsIn (w wB wr : World) (M b : Nat) (X1 X3 : Int) (i c' : Nat) (A' : Option Addr) (blk : Option Nat) (bs : List UInt8) : Prop where
  d : Doc 42 #[.int .i64 0, .int .u32 0, .int .i64 0, .int .i64 0, .slice none 0 0, .int .i64 0, .int .i64 0, .int .i64 0, .int .i64 0, .int .i64 0, .int .i64 0, .int .u32 0, .int .i64 0, .int .i64 0, .int .i64 0, .int .i64 0, .int .i64 0, .int .i64 0] w wr M b (rwV X1 X3 A' i c')
  o : Own wr 2 1 (.slice A' i c') i ((nums (bs.drop 13) i).map fun n => .int .i64 n) blk
  f : ∀ g, blk = some g → wB.heap.size ≤ g
  s : wB.heap.size ≤ wr.heap.size
theorem docs_any (w : World) (A : Option Addr) (c m : Nat) (x : UInt8) (bs : List UInt8) (hb : BytesAt w A (x :: bs)) (hn : bs.length = m) (hc : m + 1 ≤ c) (hm : m ≤ 90000) (hx : ¬ (x.toNat < 1 ∨ 5 < x.toNat)) :
    Calls Try.prog 12 #[.slice A (m + 1) c] w (DecS7 w (dec7S (x :: bs))) := by
  obtain ⟨kx, hkx⟩ : ∃ k : Nat, x.toNat = k := ⟨_, rfl⟩
  rw [hkx] at hx
  have HKX := Lib.hid hkx
  have HXX := Lib.hid hx
  have HQ5 := Lib.hid hm
  clear hkx hx hm
  obtain ⟨b, off, rfl, hblt, c0⟩ := hb.get (k := 0) (by simp)
  simp only [List.getElem_cons_zero, Nat.add_zero] at c0
  rw [HKX.out] at c0
  obtain ⟨w1, hw1⟩ : ∃ w1, ((w.alloc (.cells #[.int .i64 0, .int .u32 0, .int .i64 0, .int .i64 0, .slice none 0 0, .int .i64 0, .int .i64 0, .int .i64 0, .int .i64 0, .int .i64 0, .int .i64 0, .int .u32 0, .int .i64 0, .int .i64 0, .int .i64 0, .int .i64 0, .int .i64 0, .int .i64 0] 42)).alloc (.cells #[.int .i64 0, .int .u32 0, .int .i64 0, .int .i64 0, .slice none 0 0, .int .i64 0, .int .i64 0, .int .i64 0, .int .i64 0, .int .i64 0, .int .i64 0, .int .u32 0, .int .i64 0, .int .i64 0, .int .i64 0, .int .i64 0, .int .i64 0, .int .i64 0] 42)).alloc (.cells #[.int .i64 (kx : Int), .int .u32 0, .int .i64 0, .int .i64 0, .slice none 0 0, .int .i64 0, .int .i64 0, .int .i64 0, .int .i64 0, .int .i64 0, .int .i64 0, .int .u32 0, .int .i64 0, .int .i64 0, .int .i64 0, .int .i64 0, .int .i64 0, .int .i64 0] 42) = w1 := ⟨_, rfl⟩
  have hR : Blk w1 w.heap.size 42 #[.int .i64 0, .int .u32 0, .int .i64 0, .int .i64 0, .slice none 0 0, .int .i64 0, .int .i64 0, .int .i64 0, .int .i64 0, .int .i64 0, .int .i64 0, .int .u32 0, .int .i64 0, .int .i64 0, .int .i64 0, .int .i64 0, .int .i64 0, .int .i64 0] := by rw [← hw1]; exact ((Blk.last w _ _ rfl).alloc _).alloc _
  have hN : Blk w1 (w.heap.size + 1) 42 #[.int .i64 0, .int .u32 0, .int .i64 0, .int .i64 0, .slice none 0 0, .int .i64 0, .int .i64 0, .int .i64 0, .int .i64 0, .int .i64 0, .int .i64 0, .int .u32 0, .int .i64 0, .int .i64 0, .int .i64 0, .int .i64 0, .int .i64 0, .int .i64 0] := by rw [← hw1]; exact (Blk.last _ _ _ (by simp)).alloc _
  have hM : Blk w1 (w.heap.size + 2) 42 #[.int .i64 (kx : Int), .int .u32 0, .int .i64 0, .int .i64 0, .slice none 0 0, .int .i64 0, .int .i64 0, .int .i64 0, .int .i64 0, .int .i64 0, .int .i64 0, .int .u32 0, .int .i64 0, .int .i64 0, .int .i64 0, .int .i64 0, .int .i64 0, .int .i64 0] := by rw [← hw1]; exact Blk.last _ _ _ (by simp)
  have n1 : Nw w w1 := by rw [← hw1]; exact (((Nw.refl w).alloc _).alloc _).alloc _
  have HW1 := Lib.hid hw1
  have HR := Lib.hid hR
  have HN := Lib.hid hN
  have HM := Lib.hid hM
  have N1 := Lib.hid n1
  have HB := Lib.hid hb
  have HL := Lib.hid (And.intro hn hc)
  obtain ⟨d, hd⟩ := stRs
  have HD := Lib.hid hd
  have HJ := Lib.hid (show (Try.prog.info? 42).map (·.size) = some (#[.int .i64 0, .int .u32 0, .int .i64 0, .int .i64 0, .slice none 0 0, .int .i64 0, .int .i64 0, .int .i64 0, .int .i64 0, .int .i64 0, .int .i64 0, .int .u32 0, .int .i64 0, .int .i64 0, .int .i64 0, .int .i64 0, .int .i64 0, .int .i64 0] : Array Value).size by kernel_rfl)
  have HK := Lib.hid (show (Try.prog.info? 42).map (·.size) = some (#[.int .i64 (kx : Int), .int .u32 0, .int .i64 0, .int .i64 0, .slice none 0 0, .int .i64 0, .int .i64 0, .int .i64 0, .int .i64 0, .int .i64 0, .int .i64 0, .int .u32 0, .int .i64 0, .int .i64 0, .int .i64 0, .int .i64 0, .int .i64 0, .int .i64 0] : Array Value).size by kernel_rfl)
  have H2 := Lib.hid (show (#[.int .i64 0, .int .u32 0, .int .i64 0, .int .i64 0, .slice none 0 0, .int .i64 0, .int .i64 0, .int .i64 0, .int .i64 0, .int .i64 0, .int .i64 0, .int .u32 0, .int .i64 0, .int .i64 0, .int .i64 0, .int .i64 0, .int .i64 0, .int .i64 0] : Array Value).all (·.oneCell') = true by simp [Value.oneCell'])
  have H3 := Lib.hid (show (#[.int .i64 (kx : Int), .int .u32 0, .int .i64 0, .int .i64 0, .slice none 0 0, .int .i64 0, .int .i64 0, .int .i64 0, .int .i64 0, .int .i64 0, .int .i64 0, .int .u32 0, .int .i64 0, .int .i64 0, .int .i64 0, .int .i64 0, .int .i64 0, .int .i64 0] : Array Value).all (·.oneCell') = true by simp [Value.oneCell'])
  clear hw1 hR hN hM n1 hb hd
  have hc5 : (1 : Int) ≤ (c : Int) := by have := HL.out.2; omega
  have hmc : (m : Int) + 1 ≤ (c : Int) := by have := HL.out.2; omega
  have hm0 : ((m : Int) + 1 == 0) = false := by simp; omega
  have hm2 : (0 : Int) < (m : Int) + 1 := by omega
  have j7 : ¬ (kx : Int) < 1 := by have := HXX.out; omega
  have j8 : ¬ (5 : Int) < (kx : Int) := by have := HXX.out; omega
  have j9 : IntKind.i64.wrap (kx : Int) = (kx : Int) := by have := HXX.out; rw [IntKind.wrap_i64]; omega
  have jw : wrap64 (kx : Int) = (kx : Int) := by have := HXX.out; unfold wrap64; omega
  obtain ⟨D, hDD⟩ : ∃ D, dec7S (x :: bs) = D := ⟨_, rfl⟩
  rw [hDD]
  have HDD := Lib.hid hDD
  clear hDD
  go_enter Try.func12, Try.ntmps12
  go_upto_region 2 with (refine wpList_store_row rfl 42 _ _ rfl (w.heap.size + 1) #[.int .i64 0, .int .u32 0, .int .i64 0, .int .i64 0, .slice none 0 0, .int .i64 0, .int .i64 0, .int .i64 0, .int .i64 0, .int .i64 0, .int .i64 0, .int .u32 0, .int .i64 0, .int .i64 0, .int .i64 0, .int .i64 0, .int .i64 0, .int .i64 0] rfl rfl 42 _ (heap_last _ _ (by simp)) HJ.out rfl H2.out ?_; rw [setRow_last _ _ _ _ (by simp)])
  go_upto_region 4 with (fail)
  go_upto_region 5 with (refine wpList_store_row rfl 42 _ _ rfl (w.heap.size + 2) #[.int .i64 0, .int .u32 0, .int .i64 0, .int .i64 0, .slice none 0 0, .int .i64 0, .int .i64 0, .int .i64 0, .int .i64 0, .int .i64 0, .int .i64 0, .int .u32 0, .int .i64 0, .int .i64 0, .int .i64 0, .int .i64 0, .int .i64 0, .int .i64 0] rfl rfl 42 _ (heap_last _ _ (by simp)) HK.out rfl H3.out ?_; rw [setRow_last _ _ _ _ (by simp)])
  obtain ⟨M, hMe⟩ : ∃ M, w.heap.size + 1 + 1 = M := ⟨_, rfl⟩
  rw [HW1.out, hMe]
  have S2 := Lib.hid (show Doc 42 #[.int .i64 0, .int .u32 0, .int .i64 0, .int .i64 0, .slice none 0 0, .int .i64 0, .int .i64 0, .int .i64 0, .int .i64 0, .int .i64 0, .int .i64 0, .int .u32 0, .int .i64 0, .int .i64 0, .int .i64 0, .int .i64 0, .int .i64 0, .int .i64 0] w w1 M b (rwS ⟨kx, 0, 0, 0, [], 0, 0, 0, 0, 0, 0, 0, 0, 0, 0, 0, 0, 0⟩) from ⟨by rw [← hMe]; exact HM.out, HR.out, HN.out, N1.out, Nat.lt_of_lt_of_le hblt N1.out.size⟩)
  have HME := Lib.hid hMe
  clear hMe HM HR HN HW1 c0
  have HBM := Lib.hid hblt
  go_cut [6] from 30 to 32 (fun s6 wx => ∃ (o6 : Nat), s6 = .slice (some ⟨b, o6, none⟩) m (c - 1) ∧ Hid (wx = w1 ∧ (c ≠ 1 → o6 = off + 1)))
  case first =>
    by_cases h5 : c = 1
    · subst h5
      as_aux_lemma =>
        go_wp2_with fail
        go_meet
        have hm0 : m = 0 := by have := HL.out.2; omega
        exact ⟨off, by rw [hm0], Lib.hid ⟨rfl, fun h => absurd rfl h⟩⟩
    · have h6 : ¬ (c : Int) = 1 := by omega
      as_aux_lemma =>
        go_wp2_with fail
        go_meet
        exact ⟨off + 1, rfl, Lib.hid ⟨rfl, fun _ => rfl⟩⟩
  case rest =>
    obtain ⟨o6, rfl, HO6⟩ := hcut
    rw [HO6.out.1]
    have u0 : w1.cell? ⟨M, 0, none⟩ = some (.int .i64 kx) := (S2.out.m.cell 0).trans rfl
    have hb2 : b < w1.heap.size := S2.out.b
    clear j7 j8 j9 jw
    have hbm : ¬ M = b := by have := HME.out; have := HBM.out; omega
    have hbm2 : ¬ b = M := by have := HME.out; have := HBM.out; omega
    go_upto_block 0 with (fail)
    go_cut [7] from 32 to 185 (fun s7 wx => ∃ (Q : Rs) (A' : Option Addr) (c' : Nat), Hid (AtEndS w wx M Q A' c' kx bs))
    case first =>
      by_cases k1 : kx = 1
      · subst k1
        by_cases hl : m = 13
        · subst hl
          have h5 : c ≠ 1 := by have := HL.out.2; omega
          obtain rfl := HO6.out.2 h5
          clear h5
          as_aux_lemma =>
            have hs4 : (4 : Int) ≤ ((c - 1 : Nat) : Int) := by have := HL.out.2; omega
            have hs5 : (5 : Int) ≤ ((c - 1 : Nat) : Int) := by have := HL.out.2; omega
            have hs13 : (13 : Int) ≤ ((c - 1 : Nat) : Int) := by have := HL.out.2; omega
            have hq5 : ¬ ((c - 1 : Nat) : Int) = 5 := by have := HL.out.2; omega
            have hr5 : ¬ c - 1 = 5 := by have := HL.out.2; omega
            obtain ⟨X1, KX1, fX1, EX1, HX1⟩ := val4 HB 0 1 rfl (by have := HL.out; omega)
            obtain ⟨iX3, X3, KX3, fX3, gX3, HX3⟩ := val8 HB 5 6 rfl (by have := HL.out; omega)
            rw [List.drop_zero] at HX1
            obtain ⟨v1, z1⟩ := Doc.at S2 1 (.int .u32 0) rfl
            go_upto_region 7 with (fail)
            go_wp2_with fail
            refine (KX1.out w1 _ S2.out.n).mono ?_
            rintro e w' ⟨rfl, hw⟩
            rw [hw]
            clear hw w'
            go_upto_region 8 with (fail)
            obtain ⟨wB, hwB, SB, hbB, u0⟩ := Doc.set S2 HME 1 (.int .u32 X1) (rwS ⟨1, X1, 0, 0, [], 0, 0, 0, 0, 0, 0, 0, 0, 0, 0, 0, 0, 0⟩) 1 rfl rfl
            rw [hwB]
            clear hwB
            obtain ⟨X2, cX2, fX2, gX2, EX2, HX2⟩ := val1 HB SB.out.n 4 5 rfl (by have := HL.out; omega)
            obtain ⟨v2, z2⟩ := Doc.at SB 2 (.int .i64 0) rfl
            go_upto_region 9 with (fail)
            obtain ⟨wC, hwC, SC, hbC, u0⟩ := Doc.set SB HME 2 (.int .i64 X2) (rwS ⟨1, X1, X2, 0, [], 0, 0, 0, 0, 0, 0, 0, 0, 0, 0, 0, 0, 0⟩) 1 rfl rfl
            rw [hwC]
            clear hwC
            obtain ⟨v3, z3⟩ := Doc.at SC 3 (.int .i64 0) rfl
            go_wp2_with fail
            refine (KX3.out wC _ SC.out.n).mono ?_
            rintro e w' ⟨rfl, hw⟩
            rw [hw]
            clear hw w'
            go_wp2_with fail
            go_meet
            obtain ⟨w3, hw3, S3, hb3, u0⟩ := Doc.set SC HME 3 (.int .i64 X3) (rwS ⟨1, X1, X2, X3, [], 0, 0, 0, 0, 0, 0, 0, 0, 0, 0, 0, 0, 0⟩) 1 rfl rfl
            rw [hw3]
            clear hw3
            have := EX1.out; have := EX2.out
            exact ⟨_, none, 0, Lib.hid (AtEndS.of S3 rfl (by simp [rawS, Rs.zero, HL.out.1, HX1.out, HX2.out, HX3.out]) (by by_cases h16 : X2 ≤ 16; exact (by left; refine ⟨?_, ?_, ?_, ?_, ?_, ⟨?_, ?_⟩, ⟨?_, ?_⟩, ⟨?_, ?_⟩, ⟨?_, ?_⟩, ⟨?_, ?_⟩, ⟨?_, ?_⟩⟩ <;> dsimp only <;> first | omega | (simp; try omega)); exact (by right; refine ⟨?_, ?_, ?_⟩ <;> dsimp only <;> omega)))⟩
        · have jl : ((m : Int) == 13) = false := by simp; omega
          have HWL := Lib.hid hl
          as_aux_lemma =>
            go_wp2_with fail
            go_meet
            exact ⟨_, none, 0, Lib.hid (AtEndS.of S2 rfl (by have h1 := HL.out.1; have h := HWL.out; (try rw [← h1] at h); rw [rawS, if_neg (by omega), if_neg (by omega), if_neg (by omega), if_neg (by omega), if_neg (by omega)]; rfl))⟩
      by_cases k3 : kx = 3
      · subst k3
        by_cases hl : m = 27
        · subst hl
          have h5 : c ≠ 1 := by have := HL.out.2; omega
          obtain rfl := HO6.out.2 h5
          clear h5
          focus
            have hs19 : (19 : Int) ≤ ((c - 1 : Nat) : Int) := by have := HL.out.2; omega
            have hs27 : (27 : Int) ≤ ((c - 1 : Nat) : Int) := by have := HL.out.2; omega
            have hq19 : ¬ ((c - 1 : Nat) : Int) = 19 := by have := HL.out.2; omega
            have hr19 : ¬ c - 1 = 19 := by have := HL.out.2; omega
            obtain ⟨X8, cX8, fX8, gX8, EX8, HX8⟩ := val1 HB S2.out.n 17 18 rfl (by have := HL.out; omega)
            obtain ⟨X9, cX9, fX9, gX9, EX9, HX9⟩ := val1 HB S2.out.n 18 19 rfl (by have := HL.out; omega)
            obtain ⟨iX10, X10, KX10, fX10, gX10, HX10⟩ := val8 HB 19 20 rfl (by have := HL.out; omega)
            obtain ⟨Y0, Y1, Y2, KAT, EY1, HY0, HY1, HY2⟩ := valK HB 0 1 27 8 9 rfl rfl rfl (by have := HL.out; omega) (by omega)
            rw [List.drop_zero] at HY0
            go_upto_region 18 with (fail)
            refine wp_region_F (fun W => Nw w1 W ∧ W.cell? ⟨b, off + 18, none⟩ = some (.int .u8 X8) ∧ W.cell? ⟨b, off + 19, none⟩ = some (.int .u8 X9)) [16] (by kernel_rfl) ?_
            have hS : Nw w1 w1.drew ∧ w1.drew.cell? ⟨b, off + 18, none⟩ = some (.int .u8 X8) ∧ w1.drew.cell? ⟨b, off + 19, none⟩ = some (.int .u8 X9) := ⟨(Nw.refl w1).drew, cX8, cX9⟩
            refine wpAnyF_freeT (i := 0) (v := ?_) rfl (by kernel_rfl) (by kernel_rfl) (by kernel_rfl) (by kernel_rfl) (by kernel_rfl) (fun _ _ _ h => h) (by rfl) ?_ hS ?_
            rotate_left
            · intro u
              go_simp
              try with_reducible rfl
            try simp only [List.getElem_toArray, List.getElem_cons_succ, List.getElem_cons_zero, Act.put, List.setIfInBounds_toArray, List.set_cons_zero, List.set_cons_succ]
            refine wpAnyF_freeT (i := 2) (v := ?_) rfl (by kernel_rfl) (by kernel_rfl) (by kernel_rfl) (by kernel_rfl) (by kernel_rfl) (fun _ _ _ h => h) (by rfl) ?_ hS ?_
            rotate_left
            · intro u
              go_simp
              try with_reducible rfl
            try simp only [List.getElem_toArray, List.getElem_cons_succ, List.getElem_cons_zero, Act.put, List.setIfInBounds_toArray, List.set_cons_zero, List.set_cons_succ]
            refine wpAnyF_freeT (i := 3) (v := ?_) rfl (by kernel_rfl) (by kernel_rfl) (by kernel_rfl) (by kernel_rfl) (by kernel_rfl) (fun _ _ _ h => h) (by rfl) ?_ hS ?_
            rotate_left
            · intro u
              go_simp
              try with_reducible rfl
            try simp only [List.getElem_toArray, List.getElem_cons_succ, List.getElem_cons_zero, Act.put, List.setIfInBounds_toArray, List.set_cons_zero, List.set_cons_succ]
            refine wpAnyF_takeT (i := 4) (v := ?_) rfl (by kernel_rfl) (by kernel_rfl) (by kernel_rfl) (by kernel_rfl) (by kernel_rfl) (by kernel_rfl) (fun _ _ _ h => h) (by rfl) ?_ hS ?_
            rotate_left
            · intro u hu
              have hu1 := hu.2.1
              have hu2 := hu.2.2
              go_simp
              try with_reducible rfl
            try simp only [List.getElem_toArray, List.getElem_cons_succ, List.getElem_cons_zero, Act.put, List.setIfInBounds_toArray, List.set_cons_zero, List.set_cons_succ]
            refine wpAnyF_freeT (i := 5) (v := ?_) rfl (by kernel_rfl) (by kernel_rfl) (by kernel_rfl) (by kernel_rfl) (by kernel_rfl) (fun _ _ _ h => h) (by rfl) ?_ hS ?_
            rotate_left
            · intro u
              go_simp
              try with_reducible rfl
            try simp only [List.getElem_toArray, List.getElem_cons_succ, List.getElem_cons_zero, Act.put, List.setIfInBounds_toArray, List.set_cons_zero, List.set_cons_succ]
            refine wpAnyF_freeT (i := 6) (v := ?_) rfl (by kernel_rfl) (by kernel_rfl) (by kernel_rfl) (by kernel_rfl) (by kernel_rfl) (fun _ _ _ h => h) (by rfl) ?_ hS ?_
            rotate_left
            · intro u
              go_simp
              try with_reducible rfl
            try simp only [List.getElem_toArray, List.getElem_cons_succ, List.getElem_cons_zero, Act.put, List.setIfInBounds_toArray, List.set_cons_zero, List.set_cons_succ]
            refine wpAnyF_freeT (i := 7) (v := ?_) rfl (by kernel_rfl) (by kernel_rfl) (by kernel_rfl) (by kernel_rfl) (by kernel_rfl) (fun _ _ _ h => h) (by rfl) ?_ hS ?_
            rotate_left
            · intro u
              go_simp
              try with_reducible rfl
            try simp only [List.getElem_toArray, List.getElem_cons_succ, List.getElem_cons_zero, Act.put, List.setIfInBounds_toArray, List.set_cons_zero, List.set_cons_succ]
            refine wpAnyF_takeT (i := 8) (v := ?_) rfl (by kernel_rfl) (by kernel_rfl) (by kernel_rfl) (by kernel_rfl) (by kernel_rfl) (by kernel_rfl) (fun _ _ _ h => h) (by rfl) ?_ hS ?_
            rotate_left
            · intro u hu
              have hu1 := hu.2.1
              have hu2 := hu.2.2
              go_simp
              try with_reducible rfl
            try simp only [List.getElem_toArray, List.getElem_cons_succ, List.getElem_cons_zero, Act.put, List.setIfInBounds_toArray, List.set_cons_zero, List.set_cons_succ]
            refine wpAnyF_freeT (i := 9) (v := ?_) rfl (by kernel_rfl) (by kernel_rfl) (by kernel_rfl) (by kernel_rfl) (by kernel_rfl) (fun _ _ _ h => h) (by rfl) ?_ hS ?_
            rotate_left
            · intro u
              go_simp
              try with_reducible rfl
            try simp only [List.getElem_toArray, List.getElem_cons_succ, List.getElem_cons_zero, Act.put, List.setIfInBounds_toArray, List.set_cons_zero, List.set_cons_succ]
            refine wpAnyF_freeT (i := 10) (v := ?_) rfl (by kernel_rfl) (by kernel_rfl) (by kernel_rfl) (by kernel_rfl) (by kernel_rfl) (fun _ _ _ h => h) (by rfl) ?_ hS ?_
            rotate_left
            · intro u
              go_simp
              try with_reducible rfl
            try simp only [List.getElem_toArray, List.getElem_cons_succ, List.getElem_cons_zero, Act.put, List.setIfInBounds_toArray, List.set_cons_zero, List.set_cons_succ]
            refine wpAnyF_freeT (i := 11) (v := ?_) rfl (by kernel_rfl) (by kernel_rfl) (by kernel_rfl) (by kernel_rfl) (by kernel_rfl) (fun _ _ _ h => h) (by rfl) ?_ hS ?_
            rotate_left
            · intro u
              go_simp
              try with_reducible rfl
            try simp only [List.getElem_toArray, List.getElem_cons_succ, List.getElem_cons_zero, Act.put, List.setIfInBounds_toArray, List.set_cons_zero, List.set_cons_succ]
            refine wpAnyF_step (i := 1) (by kernel_rfl) rfl (by rfl) fun K hK => ?_
            go_simp
            go_at_call 34
            refine (KAT.out w1.drew _ S2.out.n.drew (by have := HL.out.2; omega)).mono ?_
            rintro e w6 ⟨rfl, n6⟩
            have i6 : Nw w1 w6 := Nw.step (Nw.refl w1).drew n6
            have hS : Nw w1 w6 ∧ w6.cell? ⟨b, off + 18, none⟩ = some (.int .u8 X8) ∧ w6.cell? ⟨b, off + 19, none⟩ = some (.int .u8 X9) := ⟨i6, i6.cell cX8, i6.cell cX9⟩
            have S6 := Lib.hid (S2.out.nw i6)
            clear n6
            refine hK _ _ (.inr hS) ?_
            clear hK K
            try simp only [List.getElem_toArray, List.getElem_cons_succ, List.getElem_cons_zero, Act.put, List.setIfInBounds_toArray, List.set_cons_zero, List.set_cons_succ]
            refine wpAnyF_step (i := 12) (by kernel_rfl) rfl (by rfl) fun K hK => ?_
            go_simp
            go_at_call 33
            refine (KX10.out w6 _ S6.out.n).mono ?_
            rintro e w' ⟨rfl, hw⟩
            rw [hw]
            clear hw w'
            refine hK _ _ (.inr (hS)) ?_
            clear hK K
            try simp only [List.getElem_toArray, List.getElem_cons_succ, List.getElem_cons_zero, Act.put, List.setIfInBounds_toArray, List.set_cons_zero, List.set_cons_succ]
            refine wpAnyF_freeT (i := 13) (v := ?_) rfl (by kernel_rfl) (by kernel_rfl) (by kernel_rfl) (by kernel_rfl) (by kernel_rfl) (fun _ _ _ h => h) (by rfl) ?_ hS ?_
            rotate_left
            · intro u
              go_simp
              try with_reducible rfl
            try simp only [List.getElem_toArray, List.getElem_cons_succ, List.getElem_cons_zero, Act.put, List.setIfInBounds_toArray, List.set_cons_zero, List.set_cons_succ]
            refine wpAnyF_freeT (i := 14) (v := ?_) rfl (by kernel_rfl) (by kernel_rfl) (by kernel_rfl) (by kernel_rfl) (by kernel_rfl) (fun _ _ _ h => h) (by rfl) ?_ hS ?_
            rotate_left
            · intro u
              go_simp
              try with_reducible rfl
            try simp only [List.getElem_toArray, List.getElem_cons_succ, List.getElem_cons_zero, Act.put, List.setIfInBounds_toArray, List.set_cons_zero, List.set_cons_succ]
            refine wpAnyF_freeT (i := 15) (v := ?_) rfl (by kernel_rfl) (by kernel_rfl) (by kernel_rfl) (by kernel_rfl) (by kernel_rfl) (fun _ _ _ h => h) (by rfl) ?_ hS ?_
            rotate_left
            · intro u
              go_simp
              try with_reducible rfl
            try simp only [List.getElem_toArray, List.getElem_cons_succ, List.getElem_cons_zero, Act.put, List.setIfInBounds_toArray, List.set_cons_zero, List.set_cons_succ]
            refine wpAnyF_step (i := 16) (by kernel_rfl) rfl (by rfl) fun K hK => ?_
            refine wp_store_mid 40 _ _ rfl M 5 #[.int .i64 Y0, .int .i64 Y1, .int .i64 Y2, .int .i64 X8, .int .i64 X9, .int .i64 X10] rfl rfl (there_of S6.out.m _ _ (by simp [rwS, Rs.c])) (by kernel_rfl) (by simp [Value.oneCell']) ?_
            refine hK _ (w6.setCells M 5 [.int .i64 Y0, .int .i64 Y1, .int .i64 Y2, .int .i64 X8, .int .i64 X9, .int .i64 X10]) (.inl (by kernel_rfl)) ?_
            clear hK K
            try simp only [List.getElem_toArray, List.getElem_cons_succ, List.getElem_cons_zero, Act.put, List.setIfInBounds_toArray, List.set_cons_zero, List.set_cons_succ]
            refine wpAnyF_done (by kernel_rfl) ?_ _
            go_wp2_with fail
            go_meet
            obtain ⟨w3, hw3, S3, hb3, u0⟩ := Doc.sets S6 HME 5 [.int .i64 Y0, .int .i64 Y1, .int .i64 Y2, .int .i64 X8, .int .i64 X9, .int .i64 X10] (rwS ⟨3, 0, 0, 0, [], Y0, Y1, Y2, X8, X9, X10, 0, 0, 0, 0, 0, 0, 0⟩) 3 rfl rfl
            rw [hw3]
            clear hw3
            have := EX8.out; have := EX9.out; have := EY1.out
            exact ⟨_, none, 0, Lib.hid (AtEndS.of S3 rfl (by simp [rawS, Rs.zero, HL.out.1, HX8.out, HX9.out, HX10.out, HY0.out, HY1.out, HY2.out]))⟩
        · have jl : ((m : Int) == 27) = false := by simp; omega
          have HWL := Lib.hid hl
          as_aux_lemma =>
            go_wp2_with fail
            go_meet
            exact ⟨_, none, 0, Lib.hid (AtEndS.of S2 rfl (by have h1 := HL.out.1; have h := HWL.out; (try rw [← h1] at h); rw [rawS, if_neg (by omega), if_neg (by omega), if_neg (by omega), if_neg (by omega), if_neg (by omega)]; rfl))⟩
      by_cases k4 : kx = 4
      · subst k4
        by_cases hl : m = 31
        · subst hl
          have h5 : c ≠ 1 := by have := HL.out.2; omega
          obtain rfl := HO6.out.2 h5
          clear h5
          focus
            have hs4 : (4 : Int) ≤ ((c - 1 : Nat) : Int) := by have := HL.out.2; omega
            have hs23 : (23 : Int) ≤ ((c - 1 : Nat) : Int) := by have := HL.out.2; omega
            have hs31 : (31 : Int) ≤ ((c - 1 : Nat) : Int) := by have := HL.out.2; omega
            have hq4 : ¬ ((c - 1 : Nat) : Int) = 4 := by have := HL.out.2; omega
            have hr4 : ¬ c - 1 = 4 := by have := HL.out.2; omega
            have hq23 : ¬ ((c - 1 : Nat) : Int) = 23 := by have := HL.out.2; omega
            have hr23 : ¬ c - 1 = 23 := by have := HL.out.2; omega
            obtain ⟨X11, KX11, fX11, EX11, HX11⟩ := val4 HB 0 1 rfl (by have := HL.out; omega)
            rw [List.drop_zero] at HX11
            obtain ⟨Y0, Y1, Y2, KAT, EY1, HY0, HY1, HY2⟩ := valK HB 4 5 27 12 13 rfl rfl rfl (by have := HL.out; omega) (by omega)
            obtain ⟨v11, z11⟩ := Doc.at S2 11 (.int .u32 0) rfl
            go_upto_region 20 with (fail)
            go_wp2_with fail
            refine (KX11.out w1 _ S2.out.n).mono ?_
            rintro e w' ⟨rfl, hw⟩
            rw [hw]
            clear hw w'
            go_upto_region 21 with (fail)
            obtain ⟨wB, hwB, SB, hbB, u0⟩ := Doc.set S2 HME 11 (.int .u32 X11) (rwS ⟨4, 0, 0, 0, [], 0, 0, 0, 0, 0, 0, X11, 0, 0, 0, 0, 0, 0⟩) 4 rfl rfl
            rw [hwB]
            clear hwB
            obtain ⟨X15, cX15, fX15, gX15, EX15, HX15⟩ := val1 HB SB.out.n 21 22 rfl (by have := HL.out; omega)
            obtain ⟨X16, cX16, fX16, gX16, EX16, HX16⟩ := val1 HB SB.out.n 22 23 rfl (by have := HL.out; omega)
            obtain ⟨iX17, X17, KX17, fX17, gX17, HX17⟩ := val8 HB 23 24 rfl (by have := HL.out; omega)
            refine wp_region_F (fun W => Nw wB W ∧ W.cell? ⟨b, off + 22, none⟩ = some (.int .u8 X15) ∧ W.cell? ⟨b, off + 23, none⟩ = some (.int .u8 X16)) [17] (by kernel_rfl) ?_
            have hS : Nw wB wB.drew ∧ wB.drew.cell? ⟨b, off + 22, none⟩ = some (.int .u8 X15) ∧ wB.drew.cell? ⟨b, off + 23, none⟩ = some (.int .u8 X16) := ⟨(Nw.refl wB).drew, cX15, cX16⟩
            refine wpAnyF_freeT (i := 0) (v := ?_) rfl (by kernel_rfl) (by kernel_rfl) (by kernel_rfl) (by kernel_rfl) (by kernel_rfl) (fun _ _ _ h => h) (by rfl) ?_ hS ?_
            rotate_left
            · intro u
              go_simp
              try with_reducible rfl
            try simp only [List.getElem_toArray, List.getElem_cons_succ, List.getElem_cons_zero, Act.put, List.setIfInBounds_toArray, List.set_cons_zero, List.set_cons_succ]
            refine wpAnyF_freeT (i := 1) (v := ?_) rfl (by kernel_rfl) (by kernel_rfl) (by kernel_rfl) (by kernel_rfl) (by kernel_rfl) (fun _ _ _ h => h) (by rfl) ?_ hS ?_
            rotate_left
            · intro u
              go_simp
              try with_reducible rfl
            try simp only [List.getElem_toArray, List.getElem_cons_succ, List.getElem_cons_zero, Act.put, List.setIfInBounds_toArray, List.set_cons_zero, List.set_cons_succ]
            refine wpAnyF_freeT (i := 3) (v := ?_) rfl (by kernel_rfl) (by kernel_rfl) (by kernel_rfl) (by kernel_rfl) (by kernel_rfl) (fun _ _ _ h => h) (by rfl) ?_ hS ?_
            rotate_left
            · intro u
              go_simp
              try with_reducible rfl
            try simp only [List.getElem_toArray, List.getElem_cons_succ, List.getElem_cons_zero, Act.put, List.setIfInBounds_toArray, List.set_cons_zero, List.set_cons_succ]
            refine wpAnyF_freeT (i := 4) (v := ?_) rfl (by kernel_rfl) (by kernel_rfl) (by kernel_rfl) (by kernel_rfl) (by kernel_rfl) (fun _ _ _ h => h) (by rfl) ?_ hS ?_
            rotate_left
            · intro u
              go_simp
              try with_reducible rfl
            try simp only [List.getElem_toArray, List.getElem_cons_succ, List.getElem_cons_zero, Act.put, List.setIfInBounds_toArray, List.set_cons_zero, List.set_cons_succ]
            refine wpAnyF_takeT (i := 5) (v := ?_) rfl (by kernel_rfl) (by kernel_rfl) (by kernel_rfl) (by kernel_rfl) (by kernel_rfl) (by kernel_rfl) (fun _ _ _ h => h) (by rfl) ?_ hS ?_
            rotate_left
            · intro u hu
              have hu1 := hu.2.1
              have hu2 := hu.2.2
              go_simp
              try with_reducible rfl
            try simp only [List.getElem_toArray, List.getElem_cons_succ, List.getElem_cons_zero, Act.put, List.setIfInBounds_toArray, List.set_cons_zero, List.set_cons_succ]
            refine wpAnyF_freeT (i := 6) (v := ?_) rfl (by kernel_rfl) (by kernel_rfl) (by kernel_rfl) (by kernel_rfl) (by kernel_rfl) (fun _ _ _ h => h) (by rfl) ?_ hS ?_
            rotate_left
            · intro u
              go_simp
              try with_reducible rfl
            try simp only [List.getElem_toArray, List.getElem_cons_succ, List.getElem_cons_zero, Act.put, List.setIfInBounds_toArray, List.set_cons_zero, List.set_cons_succ]
            refine wpAnyF_freeT (i := 7) (v := ?_) rfl (by kernel_rfl) (by kernel_rfl) (by kernel_rfl) (by kernel_rfl) (by kernel_rfl) (fun _ _ _ h => h) (by rfl) ?_ hS ?_
            rotate_left
            · intro u
              go_simp
              try with_reducible rfl
            try simp only [List.getElem_toArray, List.getElem_cons_succ, List.getElem_cons_zero, Act.put, List.setIfInBounds_toArray, List.set_cons_zero, List.set_cons_succ]
            refine wpAnyF_freeT (i := 8) (v := ?_) rfl (by kernel_rfl) (by kernel_rfl) (by kernel_rfl) (by kernel_rfl) (by kernel_rfl) (fun _ _ _ h => h) (by rfl) ?_ hS ?_
            rotate_left
            · intro u
              go_simp
              try with_reducible rfl
            try simp only [List.getElem_toArray, List.getElem_cons_succ, List.getElem_cons_zero, Act.put, List.setIfInBounds_toArray, List.set_cons_zero, List.set_cons_succ]
            refine wpAnyF_takeT (i := 9) (v := ?_) rfl (by kernel_rfl) (by kernel_rfl) (by kernel_rfl) (by kernel_rfl) (by kernel_rfl) (by kernel_rfl) (fun _ _ _ h => h) (by rfl) ?_ hS ?_
            rotate_left
            · intro u hu
              have hu1 := hu.2.1
              have hu2 := hu.2.2
              go_simp
              try with_reducible rfl
            try simp only [List.getElem_toArray, List.getElem_cons_succ, List.getElem_cons_zero, Act.put, List.setIfInBounds_toArray, List.set_cons_zero, List.set_cons_succ]
            refine wpAnyF_freeT (i := 10) (v := ?_) rfl (by kernel_rfl) (by kernel_rfl) (by kernel_rfl) (by kernel_rfl) (by kernel_rfl) (fun _ _ _ h => h) (by rfl) ?_ hS ?_
            rotate_left
            · intro u
              go_simp
              try with_reducible rfl
            try simp only [List.getElem_toArray, List.getElem_cons_succ, List.getElem_cons_zero, Act.put, List.setIfInBounds_toArray, List.set_cons_zero, List.set_cons_succ]
            refine wpAnyF_freeT (i := 11) (v := ?_) rfl (by kernel_rfl) (by kernel_rfl) (by kernel_rfl) (by kernel_rfl) (by kernel_rfl) (fun _ _ _ h => h) (by rfl) ?_ hS ?_
            rotate_left
            · intro u
              go_simp
              try with_reducible rfl
            try simp only [List.getElem_toArray, List.getElem_cons_succ, List.getElem_cons_zero, Act.put, List.setIfInBounds_toArray, List.set_cons_zero, List.set_cons_succ]
            refine wpAnyF_freeT (i := 12) (v := ?_) rfl (by kernel_rfl) (by kernel_rfl) (by kernel_rfl) (by kernel_rfl) (by kernel_rfl) (fun _ _ _ h => h) (by rfl) ?_ hS ?_
            rotate_left
            · intro u
              go_simp
              try with_reducible rfl
            try simp only [List.getElem_toArray, List.getElem_cons_succ, List.getElem_cons_zero, Act.put, List.setIfInBounds_toArray, List.set_cons_zero, List.set_cons_succ]
            refine wpAnyF_step (i := 2) (by kernel_rfl) rfl (by rfl) fun K hK => ?_
            go_simp
            go_at_call 34
            refine (KAT.out wB.drew _ SB.out.n.drew (by have := HL.out.2; omega)).mono ?_
            rintro e w6 ⟨rfl, n6⟩
            have i6 : Nw wB w6 := Nw.step (Nw.refl wB).drew n6
            have hS : Nw wB w6 ∧ w6.cell? ⟨b, off + 22, none⟩ = some (.int .u8 X15) ∧ w6.cell? ⟨b, off + 23, none⟩ = some (.int .u8 X16) := ⟨i6, i6.cell cX15, i6.cell cX16⟩
            have S6 := Lib.hid (SB.out.nw i6)
            clear n6
            refine hK _ _ (.inr hS) ?_
            clear hK K
            try simp only [List.getElem_toArray, List.getElem_cons_succ, List.getElem_cons_zero, Act.put, List.setIfInBounds_toArray, List.set_cons_zero, List.set_cons_succ]
            refine wpAnyF_step (i := 13) (by kernel_rfl) rfl (by rfl) fun K hK => ?_
            go_simp
            go_at_call 33
            refine (KX17.out w6 _ S6.out.n).mono ?_
            rintro e w' ⟨rfl, hw⟩
            rw [hw]
            clear hw w'
            refine hK _ _ (.inr (hS)) ?_
            clear hK K
            try simp only [List.getElem_toArray, List.getElem_cons_succ, List.getElem_cons_zero, Act.put, List.setIfInBounds_toArray, List.set_cons_zero, List.set_cons_succ]
            refine wpAnyF_freeT (i := 14) (v := ?_) rfl (by kernel_rfl) (by kernel_rfl) (by kernel_rfl) (by kernel_rfl) (by kernel_rfl) (fun _ _ _ h => h) (by rfl) ?_ hS ?_
            rotate_left
            · intro u
              go_simp
              try with_reducible rfl
            try simp only [List.getElem_toArray, List.getElem_cons_succ, List.getElem_cons_zero, Act.put, List.setIfInBounds_toArray, List.set_cons_zero, List.set_cons_succ]
            refine wpAnyF_freeT (i := 15) (v := ?_) rfl (by kernel_rfl) (by kernel_rfl) (by kernel_rfl) (by kernel_rfl) (by kernel_rfl) (fun _ _ _ h => h) (by rfl) ?_ hS ?_
            rotate_left
            · intro u
              go_simp
              try with_reducible rfl
            try simp only [List.getElem_toArray, List.getElem_cons_succ, List.getElem_cons_zero, Act.put, List.setIfInBounds_toArray, List.set_cons_zero, List.set_cons_succ]
            refine wpAnyF_freeT (i := 16) (v := ?_) rfl (by kernel_rfl) (by kernel_rfl) (by kernel_rfl) (by kernel_rfl) (by kernel_rfl) (fun _ _ _ h => h) (by rfl) ?_ hS ?_
            rotate_left
            · intro u
              go_simp
              try with_reducible rfl
            try simp only [List.getElem_toArray, List.getElem_cons_succ, List.getElem_cons_zero, Act.put, List.setIfInBounds_toArray, List.set_cons_zero, List.set_cons_succ]
            refine wpAnyF_step (i := 17) (by kernel_rfl) rfl (by rfl) fun K hK => ?_
            refine wp_store_mid 29 _ _ rfl M 12 #[.int .i64 Y0, .int .i64 Y1, .int .i64 Y2, .int .i64 X15, .int .i64 X16, .int .i64 X17] rfl rfl (there_of S6.out.m _ _ (by simp [rwS, Rs.c])) (by kernel_rfl) (by simp [Value.oneCell']) ?_
            refine hK _ (w6.setCells M 12 [.int .i64 Y0, .int .i64 Y1, .int .i64 Y2, .int .i64 X15, .int .i64 X16, .int .i64 X17]) (.inl (by kernel_rfl)) ?_
            clear hK K
            try simp only [List.getElem_toArray, List.getElem_cons_succ, List.getElem_cons_zero, Act.put, List.setIfInBounds_toArray, List.set_cons_zero, List.set_cons_succ]
            refine wpAnyF_done (by kernel_rfl) ?_ _
            go_wp2_with fail
            go_meet
            obtain ⟨w3, hw3, S3, hb3, u0⟩ := Doc.sets S6 HME 12 [.int .i64 Y0, .int .i64 Y1, .int .i64 Y2, .int .i64 X15, .int .i64 X16, .int .i64 X17] (rwS ⟨4, 0, 0, 0, [], 0, 0, 0, 0, 0, 0, X11, Y0, Y1, Y2, X15, X16, X17⟩) 4 rfl rfl
            rw [hw3]
            clear hw3
            have := EX11.out; have := EX15.out; have := EX16.out; have := EY1.out
            exact ⟨_, none, 0, Lib.hid (AtEndS.of S3 rfl (by simp [rawS, Rs.zero, HL.out.1, HX11.out, HX15.out, HX16.out, HX17.out, HY0.out, HY1.out, HY2.out]))⟩
        · have jl : ((m : Int) == 31) = false := by simp; omega
          have HWL := Lib.hid hl
          as_aux_lemma =>
            go_wp2_with fail
            go_meet
            exact ⟨_, none, 0, Lib.hid (AtEndS.of S2 rfl (by have h1 := HL.out.1; have h := HWL.out; (try rw [← h1] at h); rw [rawS, if_neg (by omega), if_neg (by omega), if_neg (by omega), if_neg (by omega), if_neg (by omega)]; rfl))⟩
      by_cases k5 : kx = 5
      · subst k5
        by_cases hl : m = 1
        · subst hl
          have h5 : c ≠ 1 := by have := HL.out.2; omega
          obtain rfl := HO6.out.2 h5
          clear h5
          as_aux_lemma =>
            obtain ⟨X2, cX2, fX2, gX2, EX2, HX2⟩ := val1 HB S2.out.n 0 1 rfl (by have := HL.out; omega)
            rw [List.drop_zero] at HX2
            obtain ⟨v2, z2⟩ := Doc.at S2 2 (.int .i64 0) rfl
            go_wp2_with fail
            go_meet
            obtain ⟨w3, hw3, S3, hb3, u0⟩ := Doc.set S2 HME 2 (.int .i64 X2) (rwS ⟨5, 0, X2, 0, [], 0, 0, 0, 0, 0, 0, 0, 0, 0, 0, 0, 0, 0⟩) 5 rfl rfl
            rw [hw3]
            clear hw3
            have := EX2.out
            exact ⟨_, none, 0, Lib.hid (AtEndS.of S3 rfl (by simp [rawS, Rs.zero, HL.out.1, HX2.out]) (by by_cases h16 : X2 ≤ 16; exact (by left; refine ⟨?_, ?_, ?_, ?_, ?_, ⟨?_, ?_⟩, ⟨?_, ?_⟩, ⟨?_, ?_⟩, ⟨?_, ?_⟩, ⟨?_, ?_⟩, ⟨?_, ?_⟩⟩ <;> dsimp only <;> first | omega | (simp; try omega)); exact (by right; refine ⟨?_, ?_, ?_⟩ <;> dsimp only <;> omega)))⟩
        · have jl : ((m : Int) == 1) = false := by simp; omega
          have HWL := Lib.hid hl
          as_aux_lemma =>
            go_wp2_with fail
            go_meet
            exact ⟨_, none, 0, Lib.hid (AtEndS.of S2 rfl (by have h1 := HL.out.1; have h := HWL.out; (try rw [← h1] at h); rw [rawS, if_neg (by omega), if_neg (by omega), if_neg (by omega), if_neg (by omega), if_neg (by omega)]; rfl))⟩
      obtain rfl : kx = 2 := by have := HXX.out; omega
      by_cases h13 : m < 13
      · have jl : ¬ (13 : Int) ≤ (m : Int) := by omega
        have HWL := Lib.hid h13
        as_aux_lemma =>
          go_wp2_with fail
          go_meet
          exact ⟨_, none, 0, Lib.hid (AtEndS.of S2 rfl (by have h1 := HL.out.1; have h := HWL.out; (try rw [← h1] at h); rw [rawS, if_neg (by omega), if_neg (by omega), if_neg (by omega), if_neg (by omega), if_neg (by omega)]; rfl))⟩
      have jl : (13 : Int) ≤ (m : Int) := by omega
      have jk : (12 : Int) < (m : Int) := by omega
      have h5 : c ≠ 1 := by have := HL.out.2; omega
      obtain rfl := HO6.out.2 h5
      clear h5
      obtain ⟨N, hN⟩ : ∃ N, beN ((bs.drop 12).take 1) = N := ⟨_, rfl⟩
      have cN : w1.cell? ⟨b, off + 13, none⟩ = some (.int .u8 (N : Int)) := by rw [← hN]; exact S2.out.n.cell (byte_cell HB.out 12 (by have := HL.out; omega))
      by_cases h8 : 8 < N
      · have jx : ¬ (N : Int) ≤ 8 := by omega
        have HWL := Lib.hid (show 8 < beN ((bs.drop 12).take 1) by omega)
        as_aux_lemma =>
          go_wp2_with fail
          go_meet
          exact ⟨_, none, 0, Lib.hid (AtEndS.of S2 rfl (by have h1 := HL.out.1; have h := HWL.out; (try rw [← h1] at h); rw [rawS, if_neg (by omega), if_neg (by omega), if_neg (by omega), if_neg (by omega), if_neg (by omega)]; rfl))⟩
      by_cases hl : m = 13 + 8 * N
      · have HNN := Lib.hid (show m = 13 + 8 * N ∧ N ≤ 8 ∧ beN ((bs.drop 12).take 1) = N from ⟨hl, by omega, hN⟩)
        clear hl h8 hN h13
        focus
          have jx : (N : Int) ≤ 8 := by have := HNN.out.2.1; omega
          have jx0 : (0 : Int) ≤ (N : Int) := by omega
          have jm := vars_eq HNN.out.1
          have jv : IntKind.i64.wrap (N : Int) = (N : Int) := by rw [IntKind.wrap_i64]; omega
          have jv2 : wrap64 (N : Int) = (N : Int) := by unfold wrap64; omega
          have hs4 : (4 : Int) ≤ ((c - 1 : Nat) : Int) := by have := HL.out.2; omega
          have hs12 : (12 : Int) ≤ ((c - 1 : Nat) : Int) := by have := HL.out.2; omega
          have hq4 : ¬ ((c - 1 : Nat) : Int) = 4 := by have := HL.out.2; omega
          have hr4 : ¬ c - 1 = 4 := by have := HL.out.2; omega
          obtain ⟨X1, KX1, fX1, EX1, HX1⟩ := val4 HB 0 1 rfl (by have := HL.out; omega)
          obtain ⟨iX3, X3, KX3, fX3, gX3, HX3⟩ := val8 HB 4 5 rfl (by have := HL.out; omega)
          rw [List.drop_zero] at HX1
          obtain ⟨v1, z1⟩ := Doc.at S2 1 (.int .u32 0) rfl
          go_upto_region 11 with (fail)
          go_wp2_with fail
          refine (KX1.out w1 _ S2.out.n).mono ?_
          rintro e w' ⟨rfl, hw⟩
          rw [hw]
          clear hw w'
          go_upto_region 12 with (fail)
          obtain ⟨wA, hwA, SA, hbA, u0⟩ := Doc.set S2 HME 1 (.int .u32 X1) (rwS ⟨2, X1, 0, 0, [], 0, 0, 0, 0, 0, 0, 0, 0, 0, 0, 0, 0, 0⟩) 2 rfl rfl
          rw [hwA]
          clear hwA
          obtain ⟨v3, z3⟩ := Doc.at SA 3 (.int .i64 0) rfl
          go_wp2_with fail
          refine (KX3.out wA _ SA.out.n).mono ?_
          rintro e w' ⟨rfl, hw⟩
          rw [hw]
          clear hw w'
          go_upto_region 14 with (fail)
          obtain ⟨wB, hwB, SB, hbB, u0⟩ := Doc.set SA HME 3 (.int .i64 X3) (rwS ⟨2, X1, 0, X3, [], 0, 0, 0, 0, 0, 0, 0, 0, 0, 0, 0, 0, 0⟩) 2 rfl rfl
          rw [hwB]
          clear hwB
          obtain ⟨i0, hi0, hz0, hz1, hz2⟩ := info_parts infoI64
          have HL1 := Lib.hid hi0
          have HL2 := Lib.hid hz0
          have HL3 := Lib.hid hz1
          have HL4 := Lib.hid hz2
          clear hi0 hz0 hz1 hz2 u0 v1 v3 z1 z3 cN hs4 hs12 hq4 hr4 jm fX1 fX3 gX3
          go_loopw [7] (fun y wr => ∃ (i : Nat) (blk : Option Nat) (A' : Option Addr) (c' : Nat), i ≤ N ∧ y = .int .i64 (i : Int) ∧ Hid (VarsIn w wB wr M b X1 X3 i c' A' blk bs)) (fun y _ => N - (intOf y).toNat)
          case atStart => exact ⟨0, none, none, 0, Nat.zero_le _, rfl, Lib.hid ⟨SB.out, Own.nil _ _ _, (fun g hg => by cases hg), Nat.le_refl _⟩⟩
          case round =>
            obtain ⟨i, blk, A', c', hi, rfl, HI⟩ := hrel
            have cN : wr.cell? ⟨b, off + 13, none⟩ = some (.int .u8 (N : Int)) := by rw [← HNN.out.2.2]; exact HI.out.d.n.cell (byte_cell HB.out 12 (by have := HL.out; have := HNN.out.1; omega))
            have hbr : b < wr.heap.size := HI.out.d.b
            by_cases hlt : i < N
            · have i1 : (i : Int) < (N : Int) := by omega
              have i2 : (i : Int) ≤ 8 := by omega
              go_upto_region 16 with (fail)
              obtain ⟨e8, he8⟩ : ∃ e : Nat, e = 8 * i := ⟨_, rfl⟩
              obtain ⟨j, hj⟩ : ∃ j : Nat, j = 13 + 8 * i := ⟨_, rfl⟩
              obtain ⟨j2, hj2⟩ : ∃ j2 : Nat, j2 = j + 8 := ⟨_, rfl⟩
              have a1 : wrap64 (8 * (i : Int)) = (e8 : Int) := by unfold wrap64; omega
              have a2 : wrap64 (13 + (e8 : Int)) = (j : Int) := by unfold wrap64; omega
              have a3 : wrap64 (21 + (e8 : Int)) = (j2 : Int) := by unfold wrap64; omega
              have b1 : IntKind.i64.wrap (8 * (i : Int)) = (e8 : Int) := by rw [IntKind.wrap_i64]; omega
              have b2 : IntKind.i64.wrap (13 + (e8 : Int)) = (j : Int) := by rw [IntKind.wrap_i64]; omega
              have b3 : IntKind.i64.wrap (21 + (e8 : Int)) = (j2 : Int) := by rw [IntKind.wrap_i64]; omega
              have a9 : max (j2 : Int) 0 = (j2 : Int) := by omega
              have a4 : (j2 : Int) ≤ ((c - 1 : Nat) : Int) := by have := HL.out.2; have := HNN.out.1; omega
              have a5 : (j : Int) ≤ (j2 : Int) := by omega
              have a6 : ¬ ((c - 1 : Nat) : Int) = (j : Int) := by have := HL.out.2; have := HNN.out.1; omega
              have a7 : ¬ c - 1 = j := by have := HL.out.2; have := HNN.out.1; omega
              have a8 : j2 - j = 8 := by omega
              have v4 : wr.drew.cell? ⟨M, 4, none⟩ = some (.slice A' i c') := (HI.out.d.m.drew.cell 4).trans rfl
              obtain ⟨iV, hiV⟩ : ∃ I : Int, (beN ((bs.drop j).take 8) : Int) = I := ⟨_, rfl⟩
              obtain ⟨V, hV⟩ : ∃ I : Int, s64 (beN ((bs.drop j).take 8)) = I := ⟨_, rfl⟩
              have eV := wrap_s64 ((bs.drop j).take 8) (by simp; omega)
              rw [hiV, hV] at eV
              obtain ⟨fV, gV⟩ := eV
              have KV := Lib.hid (fun (cc : Nat) => num_n wr.drew (some ⟨b, off + 1 + j, none⟩) cc 8 ((bs.drop j).take 8) iV (show BytesAt wr.drew _ _ from Rd.nw (by have h := bytes_part HB.out j 8 (by have := HL.out; have := HNN.out.1; omega); rw [show off + (j + 1) = off + 1 + j by omega] at h; exact h) HI.out.d.n.drew) (by have := HL.out; have := HNN.out.1; simp; omega) (by omega) hiV)
              have HV := Lib.hid (show nums (bs.drop 13) (i + 1) = nums (bs.drop 13) i ++ [V] by rw [nums_snoc, ← hV, List.drop_drop, hj])
              clear hiV hV
              have HJJ := Lib.hid (And.intro hj hj2)
              have HLT := Lib.hid hlt
              clear hj hj2 he8 cN
              refine wp_region_F (fun W => W.cell? ⟨M, 4, none⟩ = some (.slice A' i c')) [15] (by kernel_rfl) ?_
              have hS : wr.drew.cell? ⟨M, 4, none⟩ = some (.slice A' i c') := v4
              refine wpAnyF_freeT (i := 0) (v := ?_) rfl (by kernel_rfl) (by kernel_rfl) (by kernel_rfl) (by kernel_rfl) (by kernel_rfl) (fun _ _ _ h => h) (by rfl) ?_ hS ?_
              rotate_left
              · intro u
                go_simp
                try with_reducible rfl
              try simp only [List.getElem_toArray, List.getElem_cons_succ, List.getElem_cons_zero, Act.put, List.setIfInBounds_toArray, List.set_cons_zero, List.set_cons_succ]
              refine wpAnyF_takeT (i := 1) (v := ?_) rfl (by kernel_rfl) (by kernel_rfl) (by kernel_rfl) (by kernel_rfl) (by kernel_rfl) (by kernel_rfl) (fun _ _ _ h => h) (by rfl) ?_ hS ?_
              rotate_left
              · intro u hu
                go_simp
                try with_reducible rfl
              try simp only [List.getElem_toArray, List.getElem_cons_succ, List.getElem_cons_zero, Act.put, List.setIfInBounds_toArray, List.set_cons_zero, List.set_cons_succ]
              refine wpAnyF_freeT (i := 2) (v := ?_) rfl (by kernel_rfl) (by kernel_rfl) (by kernel_rfl) (by kernel_rfl) (by kernel_rfl) (fun _ _ _ h => h) (by rfl) ?_ hS ?_
              rotate_left
              · intro u
                go_simp
                try with_reducible rfl
              try simp only [List.getElem_toArray, List.getElem_cons_succ, List.getElem_cons_zero, Act.put, List.setIfInBounds_toArray, List.set_cons_zero, List.set_cons_succ]
              refine wpAnyF_freeT (i := 3) (v := ?_) rfl (by kernel_rfl) (by kernel_rfl) (by kernel_rfl) (by kernel_rfl) (by kernel_rfl) (fun _ _ _ h => h) (by rfl) ?_ hS ?_
              rotate_left
              · intro u
                go_simp
                try with_reducible rfl
              try simp only [List.getElem_toArray, List.getElem_cons_succ, List.getElem_cons_zero, Act.put, List.setIfInBounds_toArray, List.set_cons_zero, List.set_cons_succ]
              refine wpAnyF_freeT (i := 4) (v := ?_) rfl (by kernel_rfl) (by kernel_rfl) (by kernel_rfl) (by kernel_rfl) (by kernel_rfl) (fun _ _ _ h => h) (by rfl) ?_ hS ?_
              rotate_left
              · intro u
                go_simp
                try with_reducible rfl
              try simp only [List.getElem_toArray, List.getElem_cons_succ, List.getElem_cons_zero, Act.put, List.setIfInBounds_toArray, List.set_cons_zero, List.set_cons_succ]
              refine wpAnyF_freeT (i := 5) (v := ?_) rfl (by kernel_rfl) (by kernel_rfl) (by kernel_rfl) (by kernel_rfl) (by kernel_rfl) (fun _ _ _ h => h) (by rfl) ?_ hS ?_
              rotate_left
              · intro u
                go_simp
                try with_reducible rfl
              try simp only [List.getElem_toArray, List.getElem_cons_succ, List.getElem_cons_zero, Act.put, List.setIfInBounds_toArray, List.set_cons_zero, List.set_cons_succ]
              refine wpAnyF_freeT (i := 6) (v := ?_) rfl (by kernel_rfl) (by kernel_rfl) (by kernel_rfl) (by kernel_rfl) (by kernel_rfl) (fun _ _ _ h => h) (by rfl) ?_ hS ?_
              rotate_left
              · intro u
                go_simp
                try with_reducible rfl
              try simp only [List.getElem_toArray, List.getElem_cons_succ, List.getElem_cons_zero, Act.put, List.setIfInBounds_toArray, List.set_cons_zero, List.set_cons_succ]
              refine wpAnyF_freeT (i := 7) (v := ?_) rfl (by kernel_rfl) (by kernel_rfl) (by kernel_rfl) (by kernel_rfl) (by kernel_rfl) (fun _ _ _ h => h) (by rfl) ?_ hS ?_
              rotate_left
              · intro u
                go_simp
                try with_reducible rfl
              try simp only [List.getElem_toArray, List.getElem_cons_succ, List.getElem_cons_zero, Act.put, List.setIfInBounds_toArray, List.set_cons_zero, List.set_cons_succ]
              refine wpAnyF_freeT (i := 8) (v := ?_) rfl (by kernel_rfl) (by kernel_rfl) (by kernel_rfl) (by kernel_rfl) (by kernel_rfl) (fun _ _ _ h => h) (by rfl) ?_ hS ?_
              rotate_left
              · intro u
                go_simp
                try with_reducible rfl
              try simp only [List.getElem_toArray, List.getElem_cons_succ, List.getElem_cons_zero, Act.put, List.setIfInBounds_toArray, List.set_cons_zero, List.set_cons_succ]
              refine wpAnyF_freeT (i := 9) (v := ?_) rfl (by kernel_rfl) (by kernel_rfl) (by kernel_rfl) (by kernel_rfl) (by kernel_rfl) (fun _ _ _ h => h) (by rfl) ?_ hS ?_
              rotate_left
              · intro u
                go_simp
                try with_reducible rfl
              try simp only [List.getElem_toArray, List.getElem_cons_succ, List.getElem_cons_zero, Act.put, List.setIfInBounds_toArray, List.set_cons_zero, List.set_cons_succ]
              refine wpAnyF_step (i := 10) (by kernel_rfl) rfl (by rfl) fun K hK => ?_
              go_simp
              go_at_call 33
              refine (KV.out _).mono ?_
              rintro e w' ⟨rfl, hw⟩
              rw [hw]
              clear hw w'
              refine hK _ _ (.inr (hS)) ?_
              clear hK K
              try simp only [List.getElem_toArray, List.getElem_cons_succ, List.getElem_cons_zero, Act.put, List.setIfInBounds_toArray, List.set_cons_zero, List.set_cons_succ]
              refine wpAnyF_freeT (i := 11) (v := ?_) rfl (by kernel_rfl) (by kernel_rfl) (by kernel_rfl) (by kernel_rfl) (by kernel_rfl) (fun _ _ _ h => h) (by rfl) ?_ hS ?_
              rotate_left
              · intro u
                go_simp
                try with_reducible rfl
              try simp only [List.getElem_toArray, List.getElem_cons_succ, List.getElem_cons_zero, Act.put, List.setIfInBounds_toArray, List.set_cons_zero, List.set_cons_succ]
              refine wpAnyF_step (i := 12) (by kernel_rfl) rfl (by rfl) fun K hK => ?_
              go_simp
              have i6 : Nw wr (wr.drew.alloc (.cells #[.int .i64 V] 2)) := (Nw.refl wr).drew.alloc _
              have v6 := i6.cell (show wr.cell? ⟨M, 4, none⟩ = some (.slice A' i c') from v4)
              have hS := v6
              refine hK _ _ (.inr (v6)) ?_
              clear hK K
              try simp only [List.getElem_toArray, List.getElem_cons_succ, List.getElem_cons_zero, Act.put, List.setIfInBounds_toArray, List.set_cons_zero, List.set_cons_succ]
              refine wpAnyF_step (i := 13) (by kernel_rfl) rfl (by rfl) fun K hK => ?_
              refine wp_append_at (wr.drew.alloc (.cells #[.int .i64 V] 2)) _ _ 38 rfl 2 i0 _ 1 8 Try.underlying38 HL1.out HL2.out HL3.out HL4.out rfl (by omega) _ i ((nums (bs.drop 13) i).map fun n => .int .i64 n) blk rfl (HI.out.o.kept fun g hg => i6.block g (HI.out.o.lt g hg)) _ 1 1 [.int .i64 V] rfl rfl (rd_last_row wr.drew _ _) (by simp [Value.oneCell']) (by simp only [maxLen]; omega) (by omega) ?_
              intro A2 c2 w7 blk2 hown hchg hat
              have HO2 := Lib.hid hown
              have HC := Lib.hid (show Chg (fun k => some k = blk) wr w7 from ((Chg.refl _ wr).drew.alloc _).trans hchg fun _ _ h => h)
              have HT := Lib.hid hat
              have HNM := Lib.hid (show ∀ g, blk = some g → g ≠ M from fun g hg => by have := HI.out.f g hg; have := SB.out.m.lt; omega)
              have h7 := HI.out.d.m.chg HC.out (fun h => HNM.out M h.symm rfl)
              have v7 : w7.cell? ⟨M, 4, none⟩ = some (.slice A' i c') := (h7.cell 4).trans rfl
              have z7 := h7.frozen 4
              have H7 := Lib.hid h7
              clear hown hchg hat h7
              have hS := v7
              refine hK _ _ (.inr (v7)) ?_
              clear hK K
              try simp only [List.getElem_toArray, List.getElem_cons_succ, List.getElem_cons_zero, Act.put, List.setIfInBounds_toArray, List.set_cons_zero, List.set_cons_succ]
              refine wpAnyF_freeT (i := 14) (v := ?_) rfl (by kernel_rfl) (by kernel_rfl) (by kernel_rfl) (by kernel_rfl) (by kernel_rfl) (fun _ _ _ h => h) (by rfl) ?_ hS ?_
              rotate_left
              · intro u
                go_simp
                try with_reducible rfl
              try simp only [List.getElem_toArray, List.getElem_cons_succ, List.getElem_cons_zero, Act.put, List.setIfInBounds_toArray, List.set_cons_zero, List.set_cons_succ]
              refine wpAnyF_step (i := 15) (by kernel_rfl) rfl (by rfl) fun K hK => ?_
              go_simp
              refine hK _ _ (.inl (by kernel_rfl)) ?_
              clear hK K
              try simp only [List.getElem_toArray, List.getElem_cons_succ, List.getElem_cons_zero, Act.put, List.setIfInBounds_toArray, List.set_cons_zero, List.set_cons_succ]
              refine wpAnyF_done (by kernel_rfl) ?_ _
              have hW : ∀ g, blk2 = some g → g ≠ M ∧ wB.heap.size ≤ g := fun g hg => by
                rcases HT.out with q | q
                · exact ⟨HNM.out g (q ▸ hg), HI.out.f g (q ▸ hg)⟩
                · rw [q] at hg
                  injection hg with hg
                  have e1 := HI.out.d.m.lt
                  have e2 := HI.out.s
                  have e3 : wr.drew.heap.size = wr.heap.size := rfl
                  simp only [World.size_alloc] at hg
                  constructor <;> omega
              have HWW := Lib.hid hW
              have hlow : ∀ k, k < wB.heap.size → ¬ some k = blk := fun k hk hq => by have := HI.out.f k hq.symm; omega
              have HLOW := Lib.hid hlow
              clear hW hlow v4 v7 z7
              go_wp2_with fail
              have e1 := SB.out.n.size
              have e2 := HME.out
              have e3 := SB.out.r.lt
              have e4 := SB.out.z.lt
              have e5 := SB.out.m.lt
              have h6 : Doc 42 #[.int .i64 0, .int .u32 0, .int .i64 0, .int .i64 0, .slice none 0 0, .int .i64 0, .int .i64 0, .int .i64 0, .int .i64 0, .int .i64 0, .int .i64 0, .int .u32 0, .int .i64 0, .int .i64 0, .int .i64 0, .int .i64 0, .int .i64 0, .int .i64 0] w w7 M b (rwV X1 X3 A' i c') := ⟨H7.out, HI.out.d.r.chg HC.out (HLOW.out _ (by omega)), HI.out.d.z.chg HC.out (HLOW.out _ (by omega)), Below.trans HI.out.d.n (HC.out.below (fun k hk hq => Nat.le_of_not_lt fun h => HLOW.out k (by omega) hq) HI.out.d.n.size), Nat.lt_of_lt_of_le HI.out.d.b HC.out.size⟩
              refine ⟨⟨i + 1, blk2, A2, c2, HLT.out, by go_num, Lib.hid ⟨h6.set1 e2 4 _, ?_, fun g hg => (HWW.out g hg).2, ?_⟩⟩, by have := HLT.out; simp [intOf]; omega⟩
              · have h := HO2.out
                rw [show ((nums (bs.drop 13) i).map fun n => Value.int .i64 n) ++ [.int .i64 V] = (nums (bs.drop 13) (i + 1)).map fun n => Value.int .i64 n by rw [HV.out]; simp] at h
                exact h.kept fun g hg => Below.heap_setCell w7 ⟨M, 4, none⟩ _ g (HWW.out g hg).1
              · have := HC.out.size; have := HI.out.s; simp only [World.size_setCell]; omega
            · obtain rfl : i = N := by omega
              have i1 : ¬ ((i : Nat) : Int) < (i : Int) := by omega
              go_wp2_with fail
              go_meet
              clear jv jv2
              have hml : (nums (bs.drop 13) i).length = i := by simp [nums]
              have := EX1.out; have h := HNN.out; have hl := HL.out.1; have hy1 := HX1.out
              refine ⟨⟨2, X1, 0, X3, nums (bs.drop 13) i, 0, 0, 0, 0, 0, 0, 0, 0, 0, 0, 0, 0, 0⟩, A', c', Lib.hid ⟨by simp only [Rs.c]; rw [hml]; exact HI.out.d.m, HI.out.d.r, HI.out.d.z, HI.out.d.n, own_ints HI.out.o, ?_, by left; refine ⟨?_, ?_, ?_, ?_, ?_, ⟨?_, ?_⟩, ⟨?_, ?_⟩, ⟨?_, ?_⟩, ⟨?_, ?_⟩, ⟨?_, ?_⟩, ⟨?_, ?_⟩⟩ <;> dsimp only <;> first | omega | (simp; try omega), by refine ⟨⟨?_, ?_⟩, ⟨?_, ?_⟩, ⟨?_, ?_⟩, ?_⟩ <;> dsimp only <;> first | omega | (simp; try omega), ?_⟩⟩
              · rcases own_farI HI.out.o with h | ⟨a, h1, h2⟩
                · exact .inl h
                · exact .inr ⟨a, h1, by have := HI.out.f _ h2; have := SB.out.r.lt; omega⟩
              · rw [rawS, if_neg (by simp), if_neg (by simp), if_neg (by simp), if_neg (by simp), if_pos ⟨rfl, by omega, by omega, by omega⟩]; simp [Rs.zero, h.2.2, HX3.out, hy1]
      · have jx : (N : Int) ≤ 8 := by omega
        have jv : IntKind.i64.wrap (N : Int) = (N : Int) := by rw [IntKind.wrap_i64]; omega
        have jv2 : wrap64 (N : Int) = (N : Int) := by unfold wrap64; omega
        have jm := vars_ne hl
        have HWL := Lib.hid (show ¬ m = 13 + 8 * beN ((bs.drop 12).take 1) by rw [hN]; exact hl)
        as_aux_lemma =>
          go_wp2_with fail
          go_meet
          exact ⟨_, none, 0, Lib.hid (AtEndS.of S2 rfl (by have h1 := HL.out.1; have h := HWL.out; (try rw [← h1] at h); rw [rawS, if_neg (by omega), if_neg (by omega), if_neg (by omega), if_neg (by omega), if_neg (by omega)]; rfl))⟩
    case rest =>
      obtain ⟨Q, A', c', HE⟩ := hcut
      go_upto_region 24 with (fail)
      have HQM := Lib.hid HE.out.m
      have HR3 := Lib.hid HE.out.r
      have HN3 := Lib.hid HE.out.z
      have N3 := Lib.hid HE.out.n
      have HQA := Lib.hid HE.out.a
      have HAB := Lib.hid HE.out.f
      have HIN := Lib.hid HE.out.i
      have HRI := Lib.hid HE.out.b
      have HD7 := Lib.hid (show D = if mayS Q = true ∧ encB Q = x :: bs then (Q, 0) else (Rs.zero, 14) by rw [← HDD.out, ← HE.out.q, ← HKX.out]; exact dec7S_cons x bs (by rw [HKX.out]; exact HXX.out))
      have HI := Lib.hid (show (Try.prog.info? 42).map (·.size) = some ((Q.c (A') (c')).toArray).size from rfl)
      have HO := Lib.hid (show ((Q.c (A') (c')).toArray).all (·.oneCell') = true by simp [Rs.c, Value.oneCell'])
      have HSW := Lib.hid (fun W (hW : Nw wc W) => (⟨hW, HQM.out.below hW HQM.out.lt⟩ : Nw wc W ∧ Blk W M 42 (Q.c (A') (c')).toArray))
      obtain ⟨BB, hBB⟩ : ∃ BB, x :: bs = BB := ⟨_, rfl⟩
      have HB3 := Lib.hid (show BytesAt wc (some ⟨b, off, none⟩) BB by rw [← hBB]; exact Rd.nw HB.out N3.out)
      have HBL := Lib.hid (show BB.length = m + 1 by rw [← hBB]; have := HL.out.1; rw [List.length_cons]; omega)
      rw [hBB] at HD7
      obtain ⟨L8, hL8⟩ : ∃ L, encB Q = L := ⟨_, rfl⟩
      rw [hL8] at HD7
      have HL8 := Lib.hid hL8
      clear hL8 hBB
      by_cases hmay : mayS Q = true
      · by_cases he : L8 = BB
        · have hDV : D = (Q, 0) := by rw [HD7.out, if_pos ⟨hmay, he⟩]
          rw [he] at HL8
          clear he
          as_aux_lemma =>
            refine wp_region_F (fun W => Nw wc W ∧ Blk W M 42 (Q.c (A') (c')).toArray) [10] (by kernel_rfl) ?_
            have hS := HSW.out wc.drew (Nw.refl wc).drew
            refine wpAnyF_takeT (i := 0) (v := ?_) rfl (by kernel_rfl) (by kernel_rfl) (by kernel_rfl) (by kernel_rfl) (by kernel_rfl) (by kernel_rfl) (fun _ _ _ h => h) (by rfl) ?_ hS ?_
            rotate_left
            · intro u hu
              try simp only [List.getElem_toArray, List.getElem_cons_succ, List.getElem_cons_zero]
              refine Eq.trans (exec_load_row 42 _ rfl M rfl 42 (Q.c (A') (c')).toArray (0, 0) (.struct d) hu.2 HD.out rfl HI.out) ?_
              with_reducible rfl
            try simp only [List.getElem_toArray, List.getElem_cons_succ, List.getElem_cons_zero, Act.put, List.setIfInBounds_toArray, List.set_cons_zero, List.set_cons_succ]
            refine wpAnyF_step (i := 1) (by kernel_rfl) rfl (by rfl) fun K hK => ?_
            go_simp
            go_at_call 22
            refine (mays7_dec wc.drew Q (A') (c') (show IntsAt wc.drew _ _ from Rd.nw HQA.out (Nw.refl wc).drew) HIN.out).mono ?_
            rintro e w4 ⟨rfl, n4⟩
            rw [hmay]
            have i4 : Nw wc w4 := Nw.step (Nw.refl wc).drew n4
            clear n4
            have hS := HSW.out w4 i4
            refine hK _ _ (.inr (HSW.out w4 i4)) ?_
            clear hK K
            try simp only [List.getElem_toArray, List.getElem_cons_succ, List.getElem_cons_zero, Act.put, List.setIfInBounds_toArray, List.set_cons_zero, List.set_cons_succ]
            refine wpAnyF_freeT (i := 2) (v := ?_) rfl (by kernel_rfl) (by kernel_rfl) (by kernel_rfl) (by kernel_rfl) (by kernel_rfl) (fun _ _ _ h => h) (by rfl) ?_ hS ?_
            rotate_left
            · intro u
              go_simp
              try with_reducible rfl
            try simp only [List.getElem_toArray, List.getElem_cons_succ, List.getElem_cons_zero, Act.put, List.setIfInBounds_toArray, List.set_cons_zero, List.set_cons_succ]
            refine wpAnyF_freeT (i := 3) (v := ?_) rfl (by kernel_rfl) (by kernel_rfl) (by kernel_rfl) (by kernel_rfl) (by kernel_rfl) (fun _ _ _ h => h) (by rfl) ?_ hS ?_
            rotate_left
            · intro u
              go_simp
              try with_reducible rfl
            try simp only [List.getElem_toArray, List.getElem_cons_succ, List.getElem_cons_zero, Act.put, List.setIfInBounds_toArray, List.set_cons_zero, List.set_cons_succ]
            refine wpAnyF_takeT (i := 4) (v := ?_) rfl (by kernel_rfl) (by kernel_rfl) (by kernel_rfl) (by kernel_rfl) (by kernel_rfl) (by kernel_rfl) (fun _ _ _ h => h) (by rfl) ?_ hS ?_
            rotate_left
            · intro u hu
              try simp only [List.getElem_toArray, List.getElem_cons_succ, List.getElem_cons_zero]
              refine Eq.trans (exec_load_row 42 _ rfl M rfl 42 (Q.c (A') (c')).toArray (0, 0) (.struct d) hu.2 HD.out rfl HI.out) ?_
              with_reducible rfl
            try simp only [List.getElem_toArray, List.getElem_cons_succ, List.getElem_cons_zero, Act.put, List.setIfInBounds_toArray, List.set_cons_zero, List.set_cons_succ]
            refine wpAnyF_freeT (i := 7) (v := ?_) rfl (by kernel_rfl) (by kernel_rfl) (by kernel_rfl) (by kernel_rfl) (by kernel_rfl) (fun _ _ _ h => h) (by rfl) ?_ hS ?_
            rotate_left
            · intro u
              go_simp
              try with_reducible rfl
            try simp only [List.getElem_toArray, List.getElem_cons_succ, List.getElem_cons_zero, Act.put, List.setIfInBounds_toArray, List.set_cons_zero, List.set_cons_succ]
            refine wpAnyF_takeT (i := 8) (v := ?_) rfl (by kernel_rfl) (by kernel_rfl) (by kernel_rfl) (by kernel_rfl) (by kernel_rfl) (by kernel_rfl) (fun _ _ _ h => h) (by rfl) ?_ hS ?_
            rotate_left
            · intro u hu
              have s8 := BytesAt.str (show BytesAt u (some ⟨b, off, none⟩) BB from Rd.nw HB3.out hu.1) 22 5 9 c Try.underlying22 Try.underlying5 Try.underlying9
              rw [HBL.out] at s8
              go_simp
              try with_reducible rfl
            try simp only [List.getElem_toArray, List.getElem_cons_succ, List.getElem_cons_zero, Act.put, List.setIfInBounds_toArray, List.set_cons_zero, List.set_cons_succ]
            refine wpAnyF_step (i := 5) (by kernel_rfl) rfl (by rfl) fun K hK => ?_
            go_simp
            go_at_call 24
            refine (encs7_any w4 Q (A') (c') (show IntsAt w4 _ _ from Rd.nw HQA.out i4) HRI.out).mono ?_
            rintro e w5 ⟨A8, c8, rfl, hb8, hc8, n5⟩
            have i5 : Nw wc w5 := Nw.step i4 n5
            rw [HL8.out] at hb8 hc8 ⊢
            have s6 := BytesAt.str hb8 22 5 9 c8 Try.underlying22 Try.underlying5 Try.underlying9
            clear hb8 hc8 n5
            have hS := HSW.out w5 i5
            refine hK _ _ (.inr (HSW.out w5 i5)) ?_
            clear hK K
            try simp only [List.getElem_toArray, List.getElem_cons_succ, List.getElem_cons_zero, Act.put, List.setIfInBounds_toArray, List.set_cons_zero, List.set_cons_succ]
            refine wpAnyF_step (i := 6) (by kernel_rfl) rfl (by rfl) fun K hK => ?_
            go_simp
            refine hK _ _ (.inr hS) ?_
            clear hK K
            try simp only [List.getElem_toArray, List.getElem_cons_succ, List.getElem_cons_zero, Act.put, List.setIfInBounds_toArray, List.set_cons_zero, List.set_cons_succ]
            refine wpAnyF_step (i := 9) (by kernel_rfl) rfl (by rfl) fun K hK => ?_
            go_simp
            refine hK _ _ (.inr hS) ?_
            clear hK K
            try simp only [List.getElem_toArray, List.getElem_cons_succ, List.getElem_cons_zero, Act.put, List.setIfInBounds_toArray, List.set_cons_zero, List.set_cons_succ]
            refine wpAnyF_step (i := 10) (by kernel_rfl) rfl (by rfl) fun K hK => ?_
            go_simp
            refine hK _ _ (.inl (by kernel_rfl)) ?_
            clear hK K
            try simp only [List.getElem_toArray, List.getElem_cons_succ, List.getElem_cons_zero, Act.put, List.setIfInBounds_toArray, List.set_cons_zero, List.set_cons_succ]
            refine wpAnyF_done (by kernel_rfl) ?_ _
            have HNW := Lib.hid (HN3.out.below i5 HN3.out.lt)
            have HMW := Lib.hid (HQM.out.below i5 HQM.out.lt)
            have HRW := Lib.hid (HR3.out.below i5 HR3.out.lt)
            have HNF := Lib.hid (Nw.trans N3.out i5)
            have HQF := Lib.hid (show IntsAt w5 (A') Q.vs from Rd.nw HQA.out i5)
            go_wp2_with (first | (refine wpList_load_row rfl 42 _ rfl (w.heap.size + 1) rfl 42 #[.int .i64 0, .int .u32 0, .int .i64 0, .int .i64 0, .slice none 0 0, .int .i64 0, .int .i64 0, .int .i64 0, .int .i64 0, .int .i64 0, .int .i64 0, .int .u32 0, .int .i64 0, .int .i64 0, .int .i64 0, .int .i64 0, .int .i64 0, .int .i64 0] (0, 0) (.struct d) HNW.out HD.out rfl HJ.out ?_) | (refine wpList_load_row rfl 42 _ rfl M rfl 42 (Q.c (A') (c')).toArray (0, 0) (.struct d) HMW.out HD.out rfl HI.out ?_) | (refine wpList_store_row rfl 42 _ _ rfl w.heap.size (Q.c (A') (c')).toArray rfl rfl 42 _ HRW.out HI.out rfl HO.out ?_))
            exact bodyPost_ret (results_rowB rfl _ _ w.heap.size 42 (Q.c (A') (c')).toArray (0, 0) ⟨d, rfl⟩ rfl (setRow_heap w5 w.heap.size _ (Q.c (A') (c')).toArray 42 _ HRW.out) HD.out HI.out) rfl ⟨A', c', by first | (rw [hDV]; rfl) | rfl, (by first | (rw [hDV]; exact ints_setRow HQF.out HAB.out _) | exact ints_setRow HQF.out HAB.out _), below_setRow HNF.out (Nat.le_refl _) _⟩
        · have hDV : D = (Rs.zero, 14) := by rw [HD7.out, if_neg (fun h => he h.2)]
          have hne : ¬ ((⟨L8.toArray⟩ : ByteArray) = ⟨BB.toArray⟩) := fun e => he (by have := congrArg ByteArray.data e; simpa using this)
          have he2 : (L8 == BB) = false := by simpa using he
          as_aux_lemma =>
            refine wp_region_F (fun W => Nw wc W ∧ Blk W M 42 (Q.c (A') (c')).toArray) [10] (by kernel_rfl) ?_
            have hS := HSW.out wc.drew (Nw.refl wc).drew
            refine wpAnyF_takeT (i := 0) (v := ?_) rfl (by kernel_rfl) (by kernel_rfl) (by kernel_rfl) (by kernel_rfl) (by kernel_rfl) (by kernel_rfl) (fun _ _ _ h => h) (by rfl) ?_ hS ?_
            rotate_left
            · intro u hu
              try simp only [List.getElem_toArray, List.getElem_cons_succ, List.getElem_cons_zero]
              refine Eq.trans (exec_load_row 42 _ rfl M rfl 42 (Q.c (A') (c')).toArray (0, 0) (.struct d) hu.2 HD.out rfl HI.out) ?_
              with_reducible rfl
            try simp only [List.getElem_toArray, List.getElem_cons_succ, List.getElem_cons_zero, Act.put, List.setIfInBounds_toArray, List.set_cons_zero, List.set_cons_succ]
            refine wpAnyF_step (i := 1) (by kernel_rfl) rfl (by rfl) fun K hK => ?_
            go_simp
            go_at_call 22
            refine (mays7_dec wc.drew Q (A') (c') (show IntsAt wc.drew _ _ from Rd.nw HQA.out (Nw.refl wc).drew) HIN.out).mono ?_
            rintro e w4 ⟨rfl, n4⟩
            rw [hmay]
            have i4 : Nw wc w4 := Nw.step (Nw.refl wc).drew n4
            clear n4
            have hS := HSW.out w4 i4
            refine hK _ _ (.inr (HSW.out w4 i4)) ?_
            clear hK K
            try simp only [List.getElem_toArray, List.getElem_cons_succ, List.getElem_cons_zero, Act.put, List.setIfInBounds_toArray, List.set_cons_zero, List.set_cons_succ]
            refine wpAnyF_freeT (i := 2) (v := ?_) rfl (by kernel_rfl) (by kernel_rfl) (by kernel_rfl) (by kernel_rfl) (by kernel_rfl) (fun _ _ _ h => h) (by rfl) ?_ hS ?_
            rotate_left
            · intro u
              go_simp
              try with_reducible rfl
            try simp only [List.getElem_toArray, List.getElem_cons_succ, List.getElem_cons_zero, Act.put, List.setIfInBounds_toArray, List.set_cons_zero, List.set_cons_succ]
            refine wpAnyF_freeT (i := 3) (v := ?_) rfl (by kernel_rfl) (by kernel_rfl) (by kernel_rfl) (by kernel_rfl) (by kernel_rfl) (fun _ _ _ h => h) (by rfl) ?_ hS ?_
            rotate_left
            · intro u
              go_simp
              try with_reducible rfl
            try simp only [List.getElem_toArray, List.getElem_cons_succ, List.getElem_cons_zero, Act.put, List.setIfInBounds_toArray, List.set_cons_zero, List.set_cons_succ]
            refine wpAnyF_takeT (i := 4) (v := ?_) rfl (by kernel_rfl) (by kernel_rfl) (by kernel_rfl) (by kernel_rfl) (by kernel_rfl) (by kernel_rfl) (fun _ _ _ h => h) (by rfl) ?_ hS ?_
            rotate_left
            · intro u hu
              try simp only [List.getElem_toArray, List.getElem_cons_succ, List.getElem_cons_zero]
              refine Eq.trans (exec_load_row 42 _ rfl M rfl 42 (Q.c (A') (c')).toArray (0, 0) (.struct d) hu.2 HD.out rfl HI.out) ?_
              with_reducible rfl
            try simp only [List.getElem_toArray, List.getElem_cons_succ, List.getElem_cons_zero, Act.put, List.setIfInBounds_toArray, List.set_cons_zero, List.set_cons_succ]
            refine wpAnyF_freeT (i := 7) (v := ?_) rfl (by kernel_rfl) (by kernel_rfl) (by kernel_rfl) (by kernel_rfl) (by kernel_rfl) (fun _ _ _ h => h) (by rfl) ?_ hS ?_
            rotate_left
            · intro u
              go_simp
              try with_reducible rfl
            try simp only [List.getElem_toArray, List.getElem_cons_succ, List.getElem_cons_zero, Act.put, List.setIfInBounds_toArray, List.set_cons_zero, List.set_cons_succ]
            refine wpAnyF_takeT (i := 8) (v := ?_) rfl (by kernel_rfl) (by kernel_rfl) (by kernel_rfl) (by kernel_rfl) (by kernel_rfl) (by kernel_rfl) (fun _ _ _ h => h) (by rfl) ?_ hS ?_
            rotate_left
            · intro u hu
              have s8 := BytesAt.str (show BytesAt u (some ⟨b, off, none⟩) BB from Rd.nw HB3.out hu.1) 22 5 9 c Try.underlying22 Try.underlying5 Try.underlying9
              rw [HBL.out] at s8
              go_simp
              try with_reducible rfl
            try simp only [List.getElem_toArray, List.getElem_cons_succ, List.getElem_cons_zero, Act.put, List.setIfInBounds_toArray, List.set_cons_zero, List.set_cons_succ]
            refine wpAnyF_step (i := 5) (by kernel_rfl) rfl (by rfl) fun K hK => ?_
            go_simp
            go_at_call 24
            refine (encs7_any w4 Q (A') (c') (show IntsAt w4 _ _ from Rd.nw HQA.out i4) HRI.out).mono ?_
            rintro e w5 ⟨A8, c8, rfl, hb8, hc8, n5⟩
            have i5 : Nw wc w5 := Nw.step i4 n5
            rw [HL8.out] at hb8 hc8 ⊢
            have s6 := BytesAt.str hb8 22 5 9 c8 Try.underlying22 Try.underlying5 Try.underlying9
            clear hb8 hc8 n5
            have hS := HSW.out w5 i5
            refine hK _ _ (.inr (HSW.out w5 i5)) ?_
            clear hK K
            try simp only [List.getElem_toArray, List.getElem_cons_succ, List.getElem_cons_zero, Act.put, List.setIfInBounds_toArray, List.set_cons_zero, List.set_cons_succ]
            refine wpAnyF_step (i := 6) (by kernel_rfl) rfl (by rfl) fun K hK => ?_
            go_simp
            refine hK _ _ (.inr hS) ?_
            clear hK K
            try simp only [List.getElem_toArray, List.getElem_cons_succ, List.getElem_cons_zero, Act.put, List.setIfInBounds_toArray, List.set_cons_zero, List.set_cons_succ]
            refine wpAnyF_step (i := 9) (by kernel_rfl) rfl (by rfl) fun K hK => ?_
            go_simp
            refine hK _ _ (.inr hS) ?_
            clear hK K
            try simp only [List.getElem_toArray, List.getElem_cons_succ, List.getElem_cons_zero, Act.put, List.setIfInBounds_toArray, List.set_cons_zero, List.set_cons_succ]
            refine wpAnyF_step (i := 10) (by kernel_rfl) rfl (by rfl) fun K hK => ?_
            go_simp
            refine hK _ _ (.inl (by kernel_rfl)) ?_
            clear hK K
            try simp only [List.getElem_toArray, List.getElem_cons_succ, List.getElem_cons_zero, Act.put, List.setIfInBounds_toArray, List.set_cons_zero, List.set_cons_succ]
            refine wpAnyF_done (by kernel_rfl) ?_ _
            have HNW := Lib.hid (HN3.out.below i5 HN3.out.lt)
            have HMW := Lib.hid (HQM.out.below i5 HQM.out.lt)
            have HRW := Lib.hid (HR3.out.below i5 HR3.out.lt)
            have HNF := Lib.hid (Nw.trans N3.out i5)
            have HQF := Lib.hid (show IntsAt w5 (A') Q.vs from Rd.nw HQA.out i5)
            go_wp2_with (first | (refine wpList_load_row rfl 42 _ rfl (w.heap.size + 1) rfl 42 #[.int .i64 0, .int .u32 0, .int .i64 0, .int .i64 0, .slice none 0 0, .int .i64 0, .int .i64 0, .int .i64 0, .int .i64 0, .int .i64 0, .int .i64 0, .int .u32 0, .int .i64 0, .int .i64 0, .int .i64 0, .int .i64 0, .int .i64 0, .int .i64 0] (0, 0) (.struct d) HNW.out HD.out rfl HJ.out ?_) | (refine wpList_load_row rfl 42 _ rfl M rfl 42 (Q.c (A') (c')).toArray (0, 0) (.struct d) HMW.out HD.out rfl HI.out ?_) | (refine wpList_store_row rfl 42 _ _ rfl w.heap.size #[.int .i64 0, .int .u32 0, .int .i64 0, .int .i64 0, .slice none 0 0, .int .i64 0, .int .i64 0, .int .i64 0, .int .i64 0, .int .i64 0, .int .i64 0, .int .u32 0, .int .i64 0, .int .i64 0, .int .i64 0, .int .i64 0, .int .i64 0, .int .i64 0] rfl rfl 42 _ HRW.out HJ.out rfl H2.out ?_))
            exact bodyPost_ret (results_rowB rfl _ _ w.heap.size 42 #[.int .i64 0, .int .u32 0, .int .i64 0, .int .i64 0, .slice none 0 0, .int .i64 0, .int .i64 0, .int .i64 0, .int .i64 0, .int .i64 0, .int .i64 0, .int .u32 0, .int .i64 0, .int .i64 0, .int .i64 0, .int .i64 0, .int .i64 0, .int .i64 0] (0, 0) ⟨d, rfl⟩ rfl (setRow_heap w5 w.heap.size _ #[.int .i64 0, .int .u32 0, .int .i64 0, .int .i64 0, .slice none 0 0, .int .i64 0, .int .i64 0, .int .i64 0, .int .i64 0, .int .i64 0, .int .i64 0, .int .u32 0, .int .i64 0, .int .i64 0, .int .i64 0, .int .i64 0, .int .i64 0, .int .i64 0] 42 _ HRW.out) HD.out HJ.out) rfl ⟨none, 0, by first | (rw [hDV]; rfl) | rfl, .inl (by first | (rw [hDV]; rfl) | rfl), below_setRow HNF.out (Nat.le_refl _) _⟩
      · have hDV : D = (Rs.zero, 14) := by rw [HD7.out, if_neg (fun h => hmay h.1)]
        replace hmay : mayS Q = false := by simpa using hmay
        as_aux_lemma =>
          refine wp_region_F (fun W => Nw wc W ∧ Blk W M 42 (Q.c (A') (c')).toArray) [10] (by kernel_rfl) ?_
          have hS := HSW.out wc.drew (Nw.refl wc).drew
          refine wpAnyF_takeT (i := 0) (v := ?_) rfl (by kernel_rfl) (by kernel_rfl) (by kernel_rfl) (by kernel_rfl) (by kernel_rfl) (by kernel_rfl) (fun _ _ _ h => h) (by rfl) ?_ hS ?_
          rotate_left
          · intro u hu
            try simp only [List.getElem_toArray, List.getElem_cons_succ, List.getElem_cons_zero]
            refine Eq.trans (exec_load_row 42 _ rfl M rfl 42 (Q.c (A') (c')).toArray (0, 0) (.struct d) hu.2 HD.out rfl HI.out) ?_
            with_reducible rfl
          try simp only [List.getElem_toArray, List.getElem_cons_succ, List.getElem_cons_zero, Act.put, List.setIfInBounds_toArray, List.set_cons_zero, List.set_cons_succ]
          refine wpAnyF_step (i := 1) (by kernel_rfl) rfl (by rfl) fun K hK => ?_
          go_simp
          go_at_call 22
          refine (mays7_dec wc.drew Q (A') (c') (show IntsAt wc.drew _ _ from Rd.nw HQA.out (Nw.refl wc).drew) HIN.out).mono ?_
          rintro e w4 ⟨rfl, n4⟩
          rw [hmay]
          have i4 : Nw wc w4 := Nw.step (Nw.refl wc).drew n4
          clear n4
          have hS := HSW.out w4 i4
          refine hK _ _ (.inr (HSW.out w4 i4)) ?_
          clear hK K
          try simp only [List.getElem_toArray, List.getElem_cons_succ, List.getElem_cons_zero, Act.put, List.setIfInBounds_toArray, List.set_cons_zero, List.set_cons_succ]
          refine wpAnyF_freeT (i := 2) (v := ?_) rfl (by kernel_rfl) (by kernel_rfl) (by kernel_rfl) (by kernel_rfl) (by kernel_rfl) (fun _ _ _ h => h) (by rfl) ?_ hS ?_
          rotate_left
          · intro u
            go_simp
            try with_reducible rfl
          try simp only [List.getElem_toArray, List.getElem_cons_succ, List.getElem_cons_zero, Act.put, List.setIfInBounds_toArray, List.set_cons_zero, List.set_cons_succ]
          refine wpAnyF_freeT (i := 3) (v := ?_) rfl (by kernel_rfl) (by kernel_rfl) (by kernel_rfl) (by kernel_rfl) (by kernel_rfl) (fun _ _ _ h => h) (by rfl) ?_ hS ?_
          rotate_left
          · intro u
            go_simp
            try with_reducible rfl
          try simp only [List.getElem_toArray, List.getElem_cons_succ, List.getElem_cons_zero, Act.put, List.setIfInBounds_toArray, List.set_cons_zero, List.set_cons_succ]
          refine wpAnyF_leaveT (i := 4) rfl (by kernel_rfl) (by kernel_rfl) (by kernel_rfl) (by kernel_rfl) (by kernel_rfl) (fun _ _ _ h => h) (by rfl) hS ?_
          try simp only [List.getElem_toArray, List.getElem_cons_succ, List.getElem_cons_zero, Act.put, List.setIfInBounds_toArray, List.set_cons_zero, List.set_cons_succ]
          refine wpAnyF_leaveT (i := 5) rfl (by kernel_rfl) (by kernel_rfl) (by kernel_rfl) (by kernel_rfl) (by kernel_rfl) (fun _ _ _ h => h) (by rfl) hS ?_
          try simp only [List.getElem_toArray, List.getElem_cons_succ, List.getElem_cons_zero, Act.put, List.setIfInBounds_toArray, List.set_cons_zero, List.set_cons_succ]
          refine wpAnyF_leaveT (i := 6) rfl (by kernel_rfl) (by kernel_rfl) (by kernel_rfl) (by kernel_rfl) (by kernel_rfl) (fun _ _ _ h => h) (by rfl) hS ?_
          try simp only [List.getElem_toArray, List.getElem_cons_succ, List.getElem_cons_zero, Act.put, List.setIfInBounds_toArray, List.set_cons_zero, List.set_cons_succ]
          refine wpAnyF_leaveT (i := 7) rfl (by kernel_rfl) (by kernel_rfl) (by kernel_rfl) (by kernel_rfl) (by kernel_rfl) (fun _ _ _ h => h) (by rfl) hS ?_
          try simp only [List.getElem_toArray, List.getElem_cons_succ, List.getElem_cons_zero, Act.put, List.setIfInBounds_toArray, List.set_cons_zero, List.set_cons_succ]
          refine wpAnyF_leaveT (i := 8) rfl (by kernel_rfl) (by kernel_rfl) (by kernel_rfl) (by kernel_rfl) (by kernel_rfl) (fun _ _ _ h => h) (by rfl) hS ?_
          try simp only [List.getElem_toArray, List.getElem_cons_succ, List.getElem_cons_zero, Act.put, List.setIfInBounds_toArray, List.set_cons_zero, List.set_cons_succ]
          refine wpAnyF_leaveT (i := 9) rfl (by kernel_rfl) (by kernel_rfl) (by kernel_rfl) (by kernel_rfl) (by kernel_rfl) (fun _ _ _ h => h) (by rfl) hS ?_
          try simp only [List.getElem_toArray, List.getElem_cons_succ, List.getElem_cons_zero, Act.put, List.setIfInBounds_toArray, List.set_cons_zero, List.set_cons_succ]
          refine wpAnyF_step (i := 10) (by kernel_rfl) rfl (by rfl) fun K hK => ?_
          go_simp
          refine hK _ _ (.inl (by kernel_rfl)) ?_
          clear hK K
          try simp only [List.getElem_toArray, List.getElem_cons_succ, List.getElem_cons_zero, Act.put, List.setIfInBounds_toArray, List.set_cons_zero, List.set_cons_succ]
          refine wpAnyF_done (by kernel_rfl) ?_ _
          have HNW := Lib.hid (HN3.out.below i4 HN3.out.lt)
          have HMW := Lib.hid (HQM.out.below i4 HQM.out.lt)
          have HRW := Lib.hid (HR3.out.below i4 HR3.out.lt)
          have HNF := Lib.hid (Nw.trans N3.out i4)
          have HQF := Lib.hid (show IntsAt w4 (A') Q.vs from Rd.nw HQA.out i4)
          go_wp2_with (first | (refine wpList_load_row rfl 42 _ rfl (w.heap.size + 1) rfl 42 #[.int .i64 0, .int .u32 0, .int .i64 0, .int .i64 0, .slice none 0 0, .int .i64 0, .int .i64 0, .int .i64 0, .int .i64 0, .int .i64 0, .int .i64 0, .int .u32 0, .int .i64 0, .int .i64 0, .int .i64 0, .int .i64 0, .int .i64 0, .int .i64 0] (0, 0) (.struct d) HNW.out HD.out rfl HJ.out ?_) | (refine wpList_load_row rfl 42 _ rfl M rfl 42 (Q.c (A') (c')).toArray (0, 0) (.struct d) HMW.out HD.out rfl HI.out ?_) | (refine wpList_store_row rfl 42 _ _ rfl w.heap.size #[.int .i64 0, .int .u32 0, .int .i64 0, .int .i64 0, .slice none 0 0, .int .i64 0, .int .i64 0, .int .i64 0, .int .i64 0, .int .i64 0, .int .i64 0, .int .u32 0, .int .i64 0, .int .i64 0, .int .i64 0, .int .i64 0, .int .i64 0, .int .i64 0] rfl rfl 42 _ HRW.out HJ.out rfl H2.out ?_))
          exact bodyPost_ret (results_rowB rfl _ _ w.heap.size 42 #[.int .i64 0, .int .u32 0, .int .i64 0, .int .i64 0, .slice none 0 0, .int .i64 0, .int .i64 0, .int .i64 0, .int .i64 0, .int .i64 0, .int .i64 0, .int .u32 0, .int .i64 0, .int .i64 0, .int .i64 0, .int .i64 0, .int .i64 0, .int .i64 0] (0, 0) ⟨d, rfl⟩ rfl (setRow_heap w4 w.heap.size _ #[.int .i64 0, .int .u32 0, .int .i64 0, .int .i64 0, .slice none 0 0, .int .i64 0, .int .i64 0, .int .i64 0, .int .i64 0, .int .i64 0, .int .i64 0, .int .u32 0, .int .i64 0, .int .i64 0, .int .i64 0, .int .i64 0, .int .i64 0, .int .i64 0] 42 _ HRW.out) HD.out HJ.out) rfl ⟨none, 0, by first | (rw [hDV]; rfl) | rfl, .inl (by first | (rw [hDV]; rfl) | rfl), below_setRow HNF.out (Nat.le_refl _) _⟩
theorem dec7s_any (w : World) (A : Option Addr) (n c : Nat) (bs : List UInt8) (hb : BytesAt w A bs) (hn : bs.length = n) (hc : n ≤ c) (hm : n ≤ 90000) :
    Calls Try.prog 12 #[.slice A n c] w (DecS7 w (dec7S bs)) := by
  cases bs with
  | nil =>
    obtain rfl : n = 0 := by simpa using hn.symm
    exact dec7s_none w A c
  | cons x bs =>
    have hn : bs.length + 1 = n := by simpa using hn
    by_cases hx : x.toNat < 1 ∨ 5 < x.toNat
    · exact dec7s_bad w A n c x bs hb hn hx
    obtain ⟨m, rfl⟩ : ∃ m, n = m + 1 := ⟨n - 1, by omega⟩
    exact docs_any w A c m x bs hb (by omega) hc (by omega) hx
end Go.Proofs.Ytnbcjjgilndlaaa
