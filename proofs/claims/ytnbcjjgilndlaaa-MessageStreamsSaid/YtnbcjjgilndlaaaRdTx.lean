/- Messages: a model's text read, or not. Helper. -/
import Derived.Test.YtnbcjjgilndlaaaRdRdr
import Derived.StillTailTactics
import Derived.Lib.SliceRun
namespace Go.Proofs.Ytnbcjjgilndlaaa
open Go.RowKit
set_option linter.unusedVariables false
set_option linter.unusedSimpArgs false
set_option maxRecDepth 100000
theorem RdSt.alloc {w0 w : World} {P M : Nat} {T : TypeId} {A : Option Addr} {c : Nat} {bs : List UInt8} {mc : Array Value} (h : RdSt w0 w P M T A c bs mc) (o : Obj) : RdSt w0 (w.alloc o) P M T A c bs mc :=
  ⟨h.pen.alloc o, h.msg.alloc o, h.txt.below ((Below.refl _ w).alloc (Nat.le_refl _) _) (Nat.le_refl _), h.cap, h.ap, h.ne, h.chg.alloc o⟩
theorem RdSt.store {w0 w : World} {P M : Nat} {T : TypeId} {A : Option Addr} {c : Nat} {bs : List UInt8} {mc : Array Value} (h : RdSt w0 w P M T A c bs mc) (o : Nat) (u : Value) : RdSt w0 (w.setCell ⟨M, o, none⟩ u) P M T A c bs (mc.setIfInBounds o u) :=
  ⟨h.pen.far (p := ⟨M, o, none⟩) h.ne.symm _, h.msg.set_ o u, h.txt.far (p := ⟨M, o, none⟩) u fun b x e => (h.ap _ e).2.1, h.cap, h.ap, h.ne, h.chg.setCell (.inl (.inr rfl)) _⟩
/-- A breakpoint's kind, of its byte. -/
def kindOf (K : Nat) : Int := if K = 255 then -1 else (K : Int)
def pointC (mc : Array Value) (o : Nat) (bs : List UInt8) : Array Value :=
  ((mc.setIfInBounds o (.int .i64 (beN (bs.take 1) : Int))).setIfInBounds (o + 1) (.int .i64 (kindOf (beN ((bs.drop 1).take 1))))).setIfInBounds (o + 2) (.int .i64 (s64 (beN ((bs.drop 2).take 8))))
set_option maxHeartbeats 3200000 in
theorem point_any (w0 w : World) (P M : Nat) (T : TypeId) (A : Option Addr) (c : Nat) (bs : List UInt8) (mc : Array Value) (o : Nat) (v0 v2 : Int) (h : RdSt w0 w P M T A c bs mc) (h0 : mc[o]? = some (.int .i64 v0)) (h1 : mc[o + 1]? = some (.int .i64 0)) (h2 : mc[o + 2]? = some (.int .i64 v2)) (hA0 : ∀ a, A = some a → a.block < w0.heap.size) :
    Calls Try.prog 58 #[.pointer (some ⟨P, 0, none⟩), .pointer (some ⟨M, o, none⟩)] w (RdPost w0 P M T bs (if 10 ≤ bs.length then some (10, pointC mc o bs) else none)) := by
  by_cases c0 : bs.length < 1
  · rw [if_neg (by omega)]
    have H0 := Lib.hid h0
    have H1 := Lib.hid h1
    have H2 := Lib.hid h2
    have HS0 := Lib.hid h
    clear h h0 h1 h2 hA0
    go_enter Try.func58, Try.ntmps58
    go_wp2_with fail
    have k0 := small_any w0 _ P M T _ _ bs mc o v0 HS0.out H0.out
    rw [if_neg (by omega)] at k0
    have K0 := Lib.hid k0
    clear k0
    refine K0.out.mono ?_
    rintro e w1 ⟨rfl, hc⟩
    exact ⟨rfl, rfl, hc⟩
  by_cases c1 : bs.length < 2
  · rw [if_neg (by omega)]
    have H0 := Lib.hid h0
    have H1 := Lib.hid h1
    have H2 := Lib.hid h2
    have HS0 := Lib.hid h
    clear h h0 h1 h2 hA0
    go_enter Try.func58, Try.ntmps58
    go_wp2_with fail
    have k0 := small_any w0 _ P M T _ _ bs mc o v0 HS0.out H0.out
    rw [if_pos (by omega)] at k0
    have K0 := Lib.hid k0
    clear k0
    refine K0.out.mono ?_
    rintro e w1 ⟨rfl, A1, c1, s1⟩
    have HS1 := Lib.hid s1
    have d1 : w1.cell? ⟨M, o + 1, none⟩ = some (.int .i64 0) := (s1.msg.cell _).trans (by simpa [Array.getElem?_setIfInBounds] using H1.out)
    obtain ⟨wx, hwx⟩ : ∃ wx, w1.alloc (.cells #[.int .i64 0] 3) = wx := ⟨_, rfl⟩
    obtain ⟨X, hXe⟩ : ∃ X, w1.heap.size = X := ⟨_, rfl⟩
    have sx : RdSt w0 wx P M T A1 c1 (bs.drop 1) (mc.setIfInBounds o (.int .i64 (beN (bs.take 1) : Int))) := by rw [← hwx]; exact s1.alloc _
    have bX : Blk wx X 3 #[.int .i64 0] := by rw [← hwx]; exact Blk.last w1 _ _ hXe
    have x1 : X ≠ P := by rw [← hXe]; exact Nat.ne_of_gt s1.pen.lt
    have x2 : X ≠ M := by rw [← hXe]; exact Nat.ne_of_gt s1.msg.lt
    have x3 : ∀ a, A1 = some a → a.block ≠ X := fun a ha => by rw [← hXe]; exact Nat.ne_of_lt (s1.lt ha)
    have x4 : w0.heap.size ≤ X := by rw [← hXe]; exact s1.chg.size
    have e1 : wx.cell? ⟨X, 0, none⟩ = some (.int .i64 0) := (bX.cell 0).trans rfl
    have HW := Lib.hid (And.intro hwx hXe)
    have HX := Lib.hid (And.intro x1 x2)
    have KS := Lib.hid (small_side w0 wx P M T A1 c1 (bs.drop 1) _ X 0 sx bX x1 x2 x3 x4)
    clear s1 sx bX x1 x2 x3 x4 hwx hXe
    go_upto_region 2 with (fail)
    rw [HW.out.1, HW.out.2]
    go_wp2_with fail
    refine (check_yes _).mono ?_
    rintro e w9 ⟨rfl, rfl⟩
    go_wp2_with fail
    refine KS.out.mono ?_
    rintro e w2 (⟨hl, _⟩ | ⟨_, rfl, hc⟩)
    · exact absurd hl (by simp; omega)
    · exact ⟨rfl, rfl, hc⟩
  by_cases hk255 : beN ((bs.drop 1).take 1) = 255
  · by_cases c2 : bs.length < 10
    · rw [if_neg (by omega)]
      have H0 := Lib.hid h0
      have H1 := Lib.hid h1
      have H2 := Lib.hid h2
      have HS0 := Lib.hid h
      clear h h0 h1 h2 hA0
      go_enter Try.func58, Try.ntmps58
      go_wp2_with fail
      have k0 := small_any w0 _ P M T _ _ bs mc o v0 HS0.out H0.out
      rw [if_pos (by omega)] at k0
      have K0 := Lib.hid k0
      clear k0
      refine K0.out.mono ?_
      rintro e w1 ⟨rfl, A1, c1, s1⟩
      have HS1 := Lib.hid s1
      have d1 : w1.cell? ⟨M, o + 1, none⟩ = some (.int .i64 0) := (s1.msg.cell _).trans (by simpa [Array.getElem?_setIfInBounds] using H1.out)
      obtain ⟨wx, hwx⟩ : ∃ wx, w1.alloc (.cells #[.int .i64 0] 3) = wx := ⟨_, rfl⟩
      obtain ⟨X, hXe⟩ : ∃ X, w1.heap.size = X := ⟨_, rfl⟩
      have sx : RdSt w0 wx P M T A1 c1 (bs.drop 1) (mc.setIfInBounds o (.int .i64 (beN (bs.take 1) : Int))) := by rw [← hwx]; exact s1.alloc _
      have bX : Blk wx X 3 #[.int .i64 0] := by rw [← hwx]; exact Blk.last w1 _ _ hXe
      have x1 : X ≠ P := by rw [← hXe]; exact Nat.ne_of_gt s1.pen.lt
      have x2 : X ≠ M := by rw [← hXe]; exact Nat.ne_of_gt s1.msg.lt
      have x3 : ∀ a, A1 = some a → a.block ≠ X := fun a ha => by rw [← hXe]; exact Nat.ne_of_lt (s1.lt ha)
      have x4 : w0.heap.size ≤ X := by rw [← hXe]; exact s1.chg.size
      have e1 : wx.cell? ⟨X, 0, none⟩ = some (.int .i64 0) := (bX.cell 0).trans rfl
      have HW := Lib.hid (And.intro hwx hXe)
      have HX := Lib.hid (And.intro x1 x2)
      have KS := Lib.hid (small_side w0 wx P M T A1 c1 (bs.drop 1) _ X 0 sx bX x1 x2 x3 x4)
      clear s1 sx bX x1 x2 x3 x4 hwx hXe
      go_upto_region 2 with (fail)
      rw [HW.out.1, HW.out.2]
      go_wp2_with fail
      refine (check_yes _).mono ?_
      rintro e w9 ⟨rfl, rfl⟩
      go_wp2_with fail
      refine KS.out.mono ?_
      rintro e w2 (⟨_, rfl, A2, c2, s2, b2⟩ | ⟨hl, _⟩)
      rotate_left
      · exact absurd hl (by simp; omega)
      obtain ⟨K, hK⟩ : ∃ K, beN ((bs.drop 1).take 1) = K := ⟨_, rfl⟩
      rw [hK] at b2 hk255
      rw [List.drop_drop] at s2
      have f1 : w2.cell? ⟨X, 0, none⟩ = some (.int .i64 (K : Int)) := (b2.cell 0).trans rfl
      have f2 : ∀ u, (w2.setCell ⟨M, o + 1, none⟩ u).cell? ⟨X, 0, none⟩ = some (.int .i64 (K : Int)) := fun u => ((b2.far (p := ⟨M, o + 1, none⟩) HX.out.2 u).cell 0).trans rfl
      have f3 : w2.cell? ⟨M, o + 1, none⟩ = some (.int .i64 0) := (s2.msg.cell _).trans (by simpa [Array.getElem?_setIfInBounds] using H1.out)
      have f4 := s2.msg.frozen (o + 1)
      subst hk255
      have s3 := (s2.store (o + 1) (.int .i64 (((255 : Nat) : Int)))).store (o + 1) (.int .i64 (-1))
      have f5 := (s2.store (o + 1) (.int .i64 (((255 : Nat) : Int)))).msg.frozen (o + 1)
      have f6 : (w2.setCell ⟨M, o + 1, none⟩ (.int .i64 (((255 : Nat) : Int)))).cell? ⟨M, o + 1, none⟩ = some (.int .i64 (((255 : Nat) : Int))) := World.cell?_setCell_same' _ _ _ (by rw [f3]; rfl)
      rw [show ((255 : Nat) : Int) = 255 from rfl] at s3 f1 f2 f5 f6
      have HS3 := Lib.hid s3
      have HK := Lib.hid hK
      clear s2 b2 s3 hK
      go_wp2_with fail
      have k4 := long_any w0 _ P M T _ _ (bs.drop (1 + 1)) _ (o + 2) v2 HS3.out (by simpa [Array.getElem?_setIfInBounds] using H2.out)
      rw [if_neg (by simp; omega)] at k4
      have K4 := Lib.hid k4
      clear k4
      refine K4.out.mono ?_
      rintro e w5 ⟨rfl, hc⟩
      exact ⟨rfl, rfl, hc⟩
    rw [if_pos (by omega)]
    have H0 := Lib.hid h0
    have H1 := Lib.hid h1
    have H2 := Lib.hid h2
    have HS0 := Lib.hid h
    clear h h0 h1 h2 hA0
    go_enter Try.func58, Try.ntmps58
    go_wp2_with fail
    have k0 := small_any w0 _ P M T _ _ bs mc o v0 HS0.out H0.out
    rw [if_pos (by omega)] at k0
    have K0 := Lib.hid k0
    clear k0
    refine K0.out.mono ?_
    rintro e w1 ⟨rfl, A1, c1, s1⟩
    have HS1 := Lib.hid s1
    have d1 : w1.cell? ⟨M, o + 1, none⟩ = some (.int .i64 0) := (s1.msg.cell _).trans (by simpa [Array.getElem?_setIfInBounds] using H1.out)
    obtain ⟨wx, hwx⟩ : ∃ wx, w1.alloc (.cells #[.int .i64 0] 3) = wx := ⟨_, rfl⟩
    obtain ⟨X, hXe⟩ : ∃ X, w1.heap.size = X := ⟨_, rfl⟩
    have sx : RdSt w0 wx P M T A1 c1 (bs.drop 1) (mc.setIfInBounds o (.int .i64 (beN (bs.take 1) : Int))) := by rw [← hwx]; exact s1.alloc _
    have bX : Blk wx X 3 #[.int .i64 0] := by rw [← hwx]; exact Blk.last w1 _ _ hXe
    have x1 : X ≠ P := by rw [← hXe]; exact Nat.ne_of_gt s1.pen.lt
    have x2 : X ≠ M := by rw [← hXe]; exact Nat.ne_of_gt s1.msg.lt
    have x3 : ∀ a, A1 = some a → a.block ≠ X := fun a ha => by rw [← hXe]; exact Nat.ne_of_lt (s1.lt ha)
    have x4 : w0.heap.size ≤ X := by rw [← hXe]; exact s1.chg.size
    have e1 : wx.cell? ⟨X, 0, none⟩ = some (.int .i64 0) := (bX.cell 0).trans rfl
    have HW := Lib.hid (And.intro hwx hXe)
    have HX := Lib.hid (And.intro x1 x2)
    have KS := Lib.hid (small_side w0 wx P M T A1 c1 (bs.drop 1) _ X 0 sx bX x1 x2 x3 x4)
    clear s1 sx bX x1 x2 x3 x4 hwx hXe
    go_upto_region 2 with (fail)
    rw [HW.out.1, HW.out.2]
    go_wp2_with fail
    refine (check_yes _).mono ?_
    rintro e w9 ⟨rfl, rfl⟩
    go_wp2_with fail
    refine KS.out.mono ?_
    rintro e w2 (⟨_, rfl, A2, c2, s2, b2⟩ | ⟨hl, _⟩)
    rotate_left
    · exact absurd hl (by simp; omega)
    obtain ⟨K, hK⟩ : ∃ K, beN ((bs.drop 1).take 1) = K := ⟨_, rfl⟩
    rw [hK] at b2 hk255
    rw [List.drop_drop] at s2
    have f1 : w2.cell? ⟨X, 0, none⟩ = some (.int .i64 (K : Int)) := (b2.cell 0).trans rfl
    have f2 : ∀ u, (w2.setCell ⟨M, o + 1, none⟩ u).cell? ⟨X, 0, none⟩ = some (.int .i64 (K : Int)) := fun u => ((b2.far (p := ⟨M, o + 1, none⟩) HX.out.2 u).cell 0).trans rfl
    have f3 : w2.cell? ⟨M, o + 1, none⟩ = some (.int .i64 0) := (s2.msg.cell _).trans (by simpa [Array.getElem?_setIfInBounds] using H1.out)
    have f4 := s2.msg.frozen (o + 1)
    subst hk255
    have s3 := (s2.store (o + 1) (.int .i64 (((255 : Nat) : Int)))).store (o + 1) (.int .i64 (-1))
    have f5 := (s2.store (o + 1) (.int .i64 (((255 : Nat) : Int)))).msg.frozen (o + 1)
    have f6 : (w2.setCell ⟨M, o + 1, none⟩ (.int .i64 (((255 : Nat) : Int)))).cell? ⟨M, o + 1, none⟩ = some (.int .i64 (((255 : Nat) : Int))) := World.cell?_setCell_same' _ _ _ (by rw [f3]; rfl)
    rw [show ((255 : Nat) : Int) = 255 from rfl] at s3 f1 f2 f5 f6
    have HS3 := Lib.hid s3
    have HK := Lib.hid hK
    clear s2 b2 s3 hK
    go_wp2_with fail
    have k4 := long_any w0 _ P M T _ _ (bs.drop (1 + 1)) _ (o + 2) v2 HS3.out (by simpa [Array.getElem?_setIfInBounds] using H2.out)
    rw [if_pos (by simp; omega)] at k4
    have K4 := Lib.hid k4
    clear k4
    refine K4.out.mono ?_
    rintro e w5 ⟨rfl, A5, c5, s5⟩
    rw [List.drop_drop] at s5
    have HS5 := Lib.hid s5
    clear s5
    go_wp2_with fail
    go_end0
    refine ⟨rfl, A5, c5, ?_⟩
    have e5 := HS5.out
    unfold pointC kindOf
    rw [HK.out]
    simpa using e5
  by_cases c2 : bs.length < 10
  · rw [if_neg (by omega)]
    have H0 := Lib.hid h0
    have H1 := Lib.hid h1
    have H2 := Lib.hid h2
    have HS0 := Lib.hid h
    clear h h0 h1 h2 hA0
    go_enter Try.func58, Try.ntmps58
    go_wp2_with fail
    have k0 := small_any w0 _ P M T _ _ bs mc o v0 HS0.out H0.out
    rw [if_pos (by omega)] at k0
    have K0 := Lib.hid k0
    clear k0
    refine K0.out.mono ?_
    rintro e w1 ⟨rfl, A1, c1, s1⟩
    have HS1 := Lib.hid s1
    have d1 : w1.cell? ⟨M, o + 1, none⟩ = some (.int .i64 0) := (s1.msg.cell _).trans (by simpa [Array.getElem?_setIfInBounds] using H1.out)
    obtain ⟨wx, hwx⟩ : ∃ wx, w1.alloc (.cells #[.int .i64 0] 3) = wx := ⟨_, rfl⟩
    obtain ⟨X, hXe⟩ : ∃ X, w1.heap.size = X := ⟨_, rfl⟩
    have sx : RdSt w0 wx P M T A1 c1 (bs.drop 1) (mc.setIfInBounds o (.int .i64 (beN (bs.take 1) : Int))) := by rw [← hwx]; exact s1.alloc _
    have bX : Blk wx X 3 #[.int .i64 0] := by rw [← hwx]; exact Blk.last w1 _ _ hXe
    have x1 : X ≠ P := by rw [← hXe]; exact Nat.ne_of_gt s1.pen.lt
    have x2 : X ≠ M := by rw [← hXe]; exact Nat.ne_of_gt s1.msg.lt
    have x3 : ∀ a, A1 = some a → a.block ≠ X := fun a ha => by rw [← hXe]; exact Nat.ne_of_lt (s1.lt ha)
    have x4 : w0.heap.size ≤ X := by rw [← hXe]; exact s1.chg.size
    have e1 : wx.cell? ⟨X, 0, none⟩ = some (.int .i64 0) := (bX.cell 0).trans rfl
    have HW := Lib.hid (And.intro hwx hXe)
    have HX := Lib.hid (And.intro x1 x2)
    have KS := Lib.hid (small_side w0 wx P M T A1 c1 (bs.drop 1) _ X 0 sx bX x1 x2 x3 x4)
    clear s1 sx bX x1 x2 x3 x4 hwx hXe
    go_upto_region 2 with (fail)
    rw [HW.out.1, HW.out.2]
    go_wp2_with fail
    refine (check_yes _).mono ?_
    rintro e w9 ⟨rfl, rfl⟩
    go_wp2_with fail
    refine KS.out.mono ?_
    rintro e w2 (⟨_, rfl, A2, c2, s2, b2⟩ | ⟨hl, _⟩)
    rotate_left
    · exact absurd hl (by simp; omega)
    obtain ⟨K, hK⟩ : ∃ K, beN ((bs.drop 1).take 1) = K := ⟨_, rfl⟩
    rw [hK] at b2 hk255
    rw [List.drop_drop] at s2
    have f1 : w2.cell? ⟨X, 0, none⟩ = some (.int .i64 (K : Int)) := (b2.cell 0).trans rfl
    have f2 : ∀ u, (w2.setCell ⟨M, o + 1, none⟩ u).cell? ⟨X, 0, none⟩ = some (.int .i64 (K : Int)) := fun u => ((b2.far (p := ⟨M, o + 1, none⟩) HX.out.2 u).cell 0).trans rfl
    have f3 : w2.cell? ⟨M, o + 1, none⟩ = some (.int .i64 0) := (s2.msg.cell _).trans (by simpa [Array.getElem?_setIfInBounds] using H1.out)
    have f4 := s2.msg.frozen (o + 1)
    have hk : ¬ (K : Int) = 255 := by omega
    have s3 := s2.store (o + 1) (.int .i64 (K : Int))
    have HS3 := Lib.hid s3
    have HK := Lib.hid hK
    clear s2 b2 s3 hK
    go_wp2_with fail
    have k4 := long_any w0 _ P M T _ _ (bs.drop (1 + 1)) _ (o + 2) v2 HS3.out (by simpa [Array.getElem?_setIfInBounds] using H2.out)
    rw [if_neg (by simp; omega)] at k4
    have K4 := Lib.hid k4
    clear k4
    refine K4.out.mono ?_
    rintro e w5 ⟨rfl, hc⟩
    exact ⟨rfl, rfl, hc⟩
  rw [if_pos (by omega)]
  have H0 := Lib.hid h0
  have H1 := Lib.hid h1
  have H2 := Lib.hid h2
  have HS0 := Lib.hid h
  clear h h0 h1 h2 hA0
  go_enter Try.func58, Try.ntmps58
  go_wp2_with fail
  have k0 := small_any w0 _ P M T _ _ bs mc o v0 HS0.out H0.out
  rw [if_pos (by omega)] at k0
  have K0 := Lib.hid k0
  clear k0
  refine K0.out.mono ?_
  rintro e w1 ⟨rfl, A1, c1, s1⟩
  have HS1 := Lib.hid s1
  have d1 : w1.cell? ⟨M, o + 1, none⟩ = some (.int .i64 0) := (s1.msg.cell _).trans (by simpa [Array.getElem?_setIfInBounds] using H1.out)
  obtain ⟨wx, hwx⟩ : ∃ wx, w1.alloc (.cells #[.int .i64 0] 3) = wx := ⟨_, rfl⟩
  obtain ⟨X, hXe⟩ : ∃ X, w1.heap.size = X := ⟨_, rfl⟩
  have sx : RdSt w0 wx P M T A1 c1 (bs.drop 1) (mc.setIfInBounds o (.int .i64 (beN (bs.take 1) : Int))) := by rw [← hwx]; exact s1.alloc _
  have bX : Blk wx X 3 #[.int .i64 0] := by rw [← hwx]; exact Blk.last w1 _ _ hXe
  have x1 : X ≠ P := by rw [← hXe]; exact Nat.ne_of_gt s1.pen.lt
  have x2 : X ≠ M := by rw [← hXe]; exact Nat.ne_of_gt s1.msg.lt
  have x3 : ∀ a, A1 = some a → a.block ≠ X := fun a ha => by rw [← hXe]; exact Nat.ne_of_lt (s1.lt ha)
  have x4 : w0.heap.size ≤ X := by rw [← hXe]; exact s1.chg.size
  have e1 : wx.cell? ⟨X, 0, none⟩ = some (.int .i64 0) := (bX.cell 0).trans rfl
  have HW := Lib.hid (And.intro hwx hXe)
  have HX := Lib.hid (And.intro x1 x2)
  have KS := Lib.hid (small_side w0 wx P M T A1 c1 (bs.drop 1) _ X 0 sx bX x1 x2 x3 x4)
  clear s1 sx bX x1 x2 x3 x4 hwx hXe
  go_upto_region 2 with (fail)
  rw [HW.out.1, HW.out.2]
  go_wp2_with fail
  refine (check_yes _).mono ?_
  rintro e w9 ⟨rfl, rfl⟩
  go_wp2_with fail
  refine KS.out.mono ?_
  rintro e w2 (⟨_, rfl, A2, c2, s2, b2⟩ | ⟨hl, _⟩)
  rotate_left
  · exact absurd hl (by simp; omega)
  obtain ⟨K, hK⟩ : ∃ K, beN ((bs.drop 1).take 1) = K := ⟨_, rfl⟩
  rw [hK] at b2 hk255
  rw [List.drop_drop] at s2
  have f1 : w2.cell? ⟨X, 0, none⟩ = some (.int .i64 (K : Int)) := (b2.cell 0).trans rfl
  have f2 : ∀ u, (w2.setCell ⟨M, o + 1, none⟩ u).cell? ⟨X, 0, none⟩ = some (.int .i64 (K : Int)) := fun u => ((b2.far (p := ⟨M, o + 1, none⟩) HX.out.2 u).cell 0).trans rfl
  have f3 : w2.cell? ⟨M, o + 1, none⟩ = some (.int .i64 0) := (s2.msg.cell _).trans (by simpa [Array.getElem?_setIfInBounds] using H1.out)
  have f4 := s2.msg.frozen (o + 1)
  have hk : ¬ (K : Int) = 255 := by omega
  have s3 := s2.store (o + 1) (.int .i64 (K : Int))
  have HS3 := Lib.hid s3
  have HK := Lib.hid hK
  clear s2 b2 s3 hK
  go_wp2_with fail
  have k4 := long_any w0 _ P M T _ _ (bs.drop (1 + 1)) _ (o + 2) v2 HS3.out (by simpa [Array.getElem?_setIfInBounds] using H2.out)
  rw [if_pos (by simp; omega)] at k4
  have K4 := Lib.hid k4
  clear k4
  refine K4.out.mono ?_
  rintro e w5 ⟨rfl, A5, c5, s5⟩
  rw [List.drop_drop] at s5
  have HS5 := Lib.hid s5
  clear s5
  go_wp2_with fail
  go_end0
  refine ⟨rfl, A5, c5, ?_⟩
  have e5 := HS5.out
  unfold pointC kindOf
  rw [HK.out]
  rw [if_neg (by omega)]; exact e5
end Go.Proofs.Ytnbcjjgilndlaaa
/- Messages: a model's text read, or not. Helper. -/
namespace Go.Proofs.Ytnbcjjgilndlaaa
open Go.RowKit
set_option linter.unusedVariables false
set_option linter.unusedSimpArgs false
set_option maxRecDepth 100000
theorem ownEmpty (w : World) (e : TypeId) (size : Nat) (A : Option Addr) : Own w e size (.slice A 0 0) 0 [] none := ⟨by simp, A, 0, rfl, Nat.le_refl _, Nat.zero_le _, .inl ⟨rfl, rfl⟩⟩
set_option maxHeartbeats 1600000 in
theorem cloneB_any (w : World) (A : Option Addr) (n c : Nat) (bs : List UInt8) (hb : BytesAt w A bs) (hn : bs.length = n) (hl : n ≤ 1000000) :
    Calls Try.prog 80 #[.slice A n c] w fun e w' => ∃ A' c', e = .returned (.slice A' n c') ∧ BytesAt w' A' bs ∧ n ≤ c' ∧ Nw w w' ∧ (bs = [] ∨ ∃ g o, A' = some ⟨g, o, none⟩ ∧ w.heap.size ≤ g) := by
  have heq := fun w => Lib.run_eql_slice_nil (P := Try.prog) w 22 5 A n c 0 0 Try.underlying22
  cases A with
  | none =>
    have h0 : bs = [] := by
      rcases hb with h | ⟨b, o, e, _⟩
      · simpa [bcells] using h
      · cases e
    subst h0
    simp at hn
    subst hn
    clear hb
    go_enter Try.func80, Try.ntmps80
    go_wp2_with fail
    go_ret
    exact ⟨none, 0, rfl, .inl rfl, Nat.le_refl _, Nw.refl w, by simp⟩
  | some a =>
    obtain ⟨i0, hi0, hz0, hz1, hz2⟩ := info_parts infoU8
    have HL1 := Lib.hid hi0
    have HL2 := Lib.hid hz0
    have HL3 := Lib.hid hz1
    have HL4 := Lib.hid hz2
    have HB := Lib.hid hb
    have HN := Lib.hid hn
    clear hi0 hz0 hz1 hz2 hb hn
    go_enter Try.func80, Try.ntmps80
    go_wp2_with (at_builtin; refine wpList_append_at _ rfl _ _ _ rfl 5 i0 _ 1 1 Try.underlying22 HL1.out HL2.out HL3.out HL4.out rfl (by omega) _ 0 [] none rfl (ownEmpty _ _ _ _) _ n c (bcells bs) rfl (by rw [bcells_length, HN.out]; omega) (Rd.below HB.out ((Below.refl w.heap.size w).alloc (Nat.le_refl _) _) (Nat.le_refl _)) (bcells_one bs) (by simp only [maxLen]; omega) (by omega) ?_; intro A' c' w1 blk hown hchg hat; simp only [Nat.zero_add, List.nil_append] at hown; have HO := Lib.hid hown; have HC := Lib.hid hchg; have HA := Lib.hid hat; clear hown hchg hat; simp only [Nat.zero_add])
    go_ret
    obtain ⟨A2, c2, e, hrd, hnc, _⟩ := HO.out.rd
    injection e with e1 _ e3
    subst e1 e3
    refine ⟨A', c', rfl, hrd, hnc, ((Below.refl w.heap.size w).alloc (Nat.le_refl _) _).trans (HC.out.below (fun i _ h => by cases h) (by simp)), ?_⟩
    by_cases h0 : bs = []
    · exact .inl h0
    · refine .inr ?_
      have hpos : 0 < bs.length := List.length_pos_iff.2 h0
      have hnn := HN.out
      obtain ⟨_, A3, c3, e, h1, h2, h | ⟨g, off, cur, q1, q2, _⟩⟩ := HO.out
      · omega
      · injection e with e1 _ e3
        subst e1
        refine ⟨g, off, q1, ?_⟩
        rcases HA.out with q | q
        · rw [q] at q2; cases q2
        · rw [q] at q2; injection q2 with q2; simp at q2; omega
set_option maxHeartbeats 3200000 in
theorem text_any (w0 w : World) (P M : Nat) (T : TypeId) (A : Option Addr) (c : Nat) (bs : List UInt8) (mc : Array Value) (o : Nat) (A0 : Option Addr) (n0 c0 : Nat) (h : RdSt w0 w P M T A c bs mc) (ho : mc[o]? = some (.slice A0 n0 c0)) (hl : bs.length ≤ 1000000) :
    Calls Try.prog 53 #[.pointer (some ⟨P, 0, none⟩), .pointer (some ⟨M, o, none⟩)] w fun e w' =>
      ((1 ≤ bs.length ∧ bs.length ≤ 4091) ∧ e = .returned (.tuple #[]) ∧ ∃ A' c', RdSt w0 w' P M T none 0 [] (mc.setIfInBounds o (.slice A' bs.length c')) ∧ BytesAt w' A' bs ∧ ∃ g x, A' = some ⟨g, x, none⟩ ∧ w.heap.size ≤ g) ∨
      (¬ (1 ≤ bs.length ∧ bs.length ≤ 4091) ∧ e = .panicked boom ∧ Chg (fun i => i = P ∨ i = M) w0 w') := by
  have KC := Lib.hid (cloneB_any w A bs.length c bs h.txt rfl hl)
  have p0 : w.cell? ⟨P, 0, none⟩ = some (.slice A bs.length c) := (h.pen.cell 0).trans rfl
  have p1 : w.cell? ⟨P, 1, none⟩ = some (.bool true) := (h.pen.cell 1).trans rfl
  have HO := Lib.hid ho
  have H := Lib.hid h
  clear h ho
  go_enter Try.func53, Try.ntmps53
  go_wp2_with fail
  refine KC.out.mono ?_
  rintro e w1 ⟨A', c', rfl, hby, hcc, n1, hg⟩
  have hP1 : Blk w1 P 76 #[.slice A bs.length c, .bool true] := H.out.pen.below n1 H.out.pen.lt
  have hM1 : Blk w1 M T mc := H.out.msg.below n1 H.out.msg.lt
  have hne := H.out.ne
  have m0 : w1.cell? ⟨M, o, none⟩ = some (.slice A0 n0 c0) := (hM1.cell o).trans HO.out
  have mz := hM1.frozen o
  have hMo : (mc.setIfInBounds o (.slice A' bs.length c'))[o]? = some (.slice A' bs.length c') := by
    obtain ⟨h1, _⟩ := Array.getElem?_eq_some_iff.1 HO.out
    simp [h1]
  obtain ⟨w2, hw2⟩ : ∃ w2, (w1.setCell ⟨M, o, none⟩ (.slice A' bs.length c')).setCell ⟨P, 0, none⟩ (.slice none 0 0) = w2 := ⟨_, rfl⟩
  have q0 : (w1.setCell ⟨M, o, none⟩ (.slice A' bs.length c')).cell? ⟨P, 0, none⟩ = some (.slice A bs.length c) := ((hP1.far (p := ⟨M, o, none⟩) hne.symm _).cell 0).trans rfl
  have qz : (w1.setCell ⟨M, o, none⟩ (.slice A' bs.length c')).frozen? ⟨P, 0, none⟩ = false := (hP1.far (p := ⟨M, o, none⟩) hne.symm _).frozen 0
  have hP2 : Blk w2 P 76 #[.slice none 0 0, .bool true] := by rw [← hw2]; exact (hP1.far (p := ⟨M, o, none⟩) hne.symm _).set_ 0 _
  have hM2 : Blk w2 M T (mc.setIfInBounds o (.slice A' bs.length c')) := by rw [← hw2]; exact (hM1.set_ o _).far (p := ⟨P, 0, none⟩) hne _
  have m2 : w2.cell? ⟨M, o, none⟩ = some (.slice A' bs.length c') := (hM2.cell o).trans hMo
  have hC2 : Chg (fun i => i = P ∨ i = M) w0 w2 := by
    rw [← hw2]
    refine ((H.out.chg.trans (Chg.of_below n1 (Nat.le_refl _) (fun _ => False)) (fun i _ q => q.elim)).setCell (.inl (.inr rfl)) _).setCell (.inl (.inl rfl)) _
  have HW2 := Lib.hid hw2
  have HS2 := Lib.hid (show RdSt w0 w2 P M T none 0 [] (mc.setIfInBounds o (.slice A' bs.length c')) from ⟨hP2, hM2, .inl rfl, Nat.le_refl _, (fun a ha => by cases ha), hne, hC2⟩)
  have HN1 := Lib.hid n1
  have HBY := Lib.hid hby
  have HG := Lib.hid hg
  clear hg hP1 hM1 hP2 hM2 hC2 hw2 n1 hby p0 p1
  go_upto_region 3 with (fail)
  rw [HW2.out]
  clear m0 mz q0 qz
  by_cases h1 : 1 ≤ bs.length
  · have g1 : (1 : Int) ≤ (bs.length : Int) := by omega
    by_cases h2 : bs.length ≤ 4091
    · have g2 : (bs.length : Int) ≤ 4091 := by omega
      go_wp2_with fail
      refine (check_yes _).mono ?_
      rintro e w9 ⟨rfl, rfl⟩
      go_wp2_with fail
      go_end0
      refine .inl ⟨⟨h1, h2⟩, rfl, A', c', HS2.out, ?_, HG.out.resolve_left (fun q => by rw [q] at h1; simp at h1)⟩
      rcases HG.out with h0 | ⟨g, o2, e, hg⟩
      · rw [h0]; exact .inl rfl
      · rw [← HW2.out]
        have hp := H.out.pen.lt
        have hm := H.out.msg.lt
        refine (HBY.out.far (p := ⟨M, o, none⟩) _ fun b x q => ?_).far (p := ⟨P, 0, none⟩) _ fun b x q => ?_
        · rw [e] at q; injection q with q; injection q with q; show b ≠ M; omega
        · rw [e] at q; injection q with q; injection q with q; show b ≠ P; omega
    · have g2 : ¬ (bs.length : Int) ≤ 4091 := by omega
      have g3 : decide ((bs.length : Int) ≤ 4091) = false := decide_eq_false g2
      go_wp2_with fail
      try rw [g3]
      refine (check_no _).mono ?_
      rintro e w9 ⟨rfl, rfl⟩
      exact ⟨rfl, .inr ⟨fun q => h2 q.2, rfl, HS2.out.chg⟩⟩
  · have g1 : ¬ (1 : Int) ≤ (bs.length : Int) := by omega
    go_wp2_with fail
    refine (check_no _).mono ?_
    rintro e w9 ⟨rfl, rfl⟩
    exact ⟨rfl, .inr ⟨fun q => h1 q.1, rfl, HS2.out.chg⟩⟩
end Go.Proofs.Ytnbcjjgilndlaaa
