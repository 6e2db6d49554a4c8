/- Messages: over the parts of a response with variables. Helper. -/
import Derived.Test.YtnbcjjgilndlaaaRdOv
import Derived.Test.YtnbcjjgilndlaaaRdVars
namespace Go.Proofs.Ytnbcjjgilndlaaa
open Go.RowKit Go.Shelf
set_option linter.unusedVariables false
set_option linter.unusedSimpArgs false
set_option maxRecDepth 100000
set_option maxHeartbeats 3200000
theorem tell2_over (wp : World) (P M fb : Nat) (A : Option Addr) (c : Nat) (bs : List UInt8) (hst : RdSt (wp.alloc (.cells #[.bool false] 4)) (wp.alloc (.cells #[.bool false] 4)) P M 42 A c bs #[.int .i64 2, .int .u32 0, .int .i64 0, .int .i64 0, .slice none 0 0, .int .i64 0, .int .i64 0, .int .i64 0, .int .i64 0, .int .i64 0, .int .i64 0, .int .u32 0, .int .i64 0, .int .i64 0, .int .i64 0, .int .i64 0, .int .i64 0, .int .i64 0]) (hF : Blk wp fb 116 #[.func (.func 65) #[] #[], .func (.func 68) #[] #[], .func (.func 69) #[] #[]]) (hP : P < wp.heap.size) (hM : M < wp.heap.size) (hfP : fb ≠ P) (hfM : fb ≠ M) :
    Calls Try.prog 32 #[.pointer (some ⟨P, 0, none⟩), .pointer (some ⟨M, 0, none⟩), .slice (some ⟨fb, 0, none⟩) 3 3] wp fun e w' =>
      ((13 ≤ bs.length ∧ beN ((bs.drop 12).take 1) ≤ 8 ∧ bs.length = 13 + 8 * beN ((bs.drop 12).take 1)) ∧ e = .returned (.bool false) ∧ ∃ W G, Blk W M 42 #[.int .i64 2, .int .u32 (beN (bs.take 4) : Int), .int .i64 0, .int .i64 (s64 (beN ((bs.drop 4).take 8))), .slice (some ⟨G, 0, none⟩) (beN ((bs.drop 12).take 1)) (beN ((bs.drop 12).take 1)), .int .i64 0, .int .i64 0, .int .i64 0, .int .i64 0, .int .i64 0, .int .i64 0, .int .u32 0, .int .i64 0, .int .i64 0, .int .i64 0, .int .i64 0, .int .i64 0, .int .i64 0] ∧ IntsAt W (some ⟨G, 0, none⟩) (nums (bs.drop 13) (beN ((bs.drop 12).take 1))) ∧ wp.heap.size + 1 ≤ G ∧ Chg (fun i => i = P ∨ i = M) (wp.alloc (.cells #[.bool false] 4)) W ∧ w' = W.setCell ⟨wp.heap.size, 0, none⟩ (.bool false)) ∨
      (¬ (13 ≤ bs.length ∧ beN ((bs.drop 12).take 1) ≤ 8 ∧ bs.length = 13 + 8 * beN ((bs.drop 12).take 1)) ∧ e = .returned (.bool true) ∧ ∃ W, Chg (fun i => i = P ∨ i = M) (wp.alloc (.cells #[.bool false] 4)) W ∧ w' = (W.alloc (.cells #[] 128)).setCell ⟨wp.heap.size, 0, none⟩ (.bool true)) := by
  have chgE : ∀ W, Chg (fun i => i = P ∨ i = M) (wp.alloc (.cells #[.bool false] 4)) W → W.cell? ⟨wp.heap.size, 0, none⟩ = some (.bool false) ∧ W.frozen? ⟨wp.heap.size, 0, none⟩ = false := fun W hc => by
    have hb : Blk W wp.heap.size 4 #[.bool false] := (Blk.last wp _ _ rfl).chg hc (by omega)
    exact ⟨(hb.cell 0).trans rfl, hb.frozen 0⟩
  have chgQ : ∀ i W, ((i = 0 ∧ ∃ A' c', RdSt (wp.alloc (.cells #[.bool false] 4)) W P M 42 A' c' bs #[.int .i64 2, .int .u32 0, .int .i64 0, .int .i64 0, .slice none 0 0, .int .i64 0, .int .i64 0, .int .i64 0, .int .i64 0, .int .i64 0, .int .i64 0, .int .u32 0, .int .i64 0, .int .i64 0, .int .i64 0, .int .i64 0, .int .i64 0, .int .i64 0]) ∨ (i = 1 ∧ 4 ≤ bs.length ∧ ∃ A' c', RdSt (wp.alloc (.cells #[.bool false] 4)) W P M 42 A' c' (bs.drop 4) #[.int .i64 2, .int .u32 (beN (bs.take 4) : Int), .int .i64 0, .int .i64 0, .slice none 0 0, .int .i64 0, .int .i64 0, .int .i64 0, .int .i64 0, .int .i64 0, .int .i64 0, .int .u32 0, .int .i64 0, .int .i64 0, .int .i64 0, .int .i64 0, .int .i64 0, .int .i64 0]) ∨ (i = 2 ∧ 12 ≤ bs.length ∧ ∃ A' c', RdSt (wp.alloc (.cells #[.bool false] 4)) W P M 42 A' c' (bs.drop 12) #[.int .i64 2, .int .u32 (beN (bs.take 4) : Int), .int .i64 0, .int .i64 (s64 (beN ((bs.drop 4).take 8))), .slice none 0 0, .int .i64 0, .int .i64 0, .int .i64 0, .int .i64 0, .int .i64 0, .int .i64 0, .int .u32 0, .int .i64 0, .int .i64 0, .int .i64 0, .int .i64 0, .int .i64 0, .int .i64 0]) ∨ (i = 3 ∧ (13 ≤ bs.length ∧ beN ((bs.drop 12).take 1) ≤ 8 ∧ 13 + 8 * beN ((bs.drop 12).take 1) ≤ bs.length) ∧ ∃ A' c' G, RdSt (wp.alloc (.cells #[.bool false] 4)) W P M 42 A' c' (bs.drop (13 + 8 * beN ((bs.drop 12).take 1))) #[.int .i64 2, .int .u32 (beN (bs.take 4) : Int), .int .i64 0, .int .i64 (s64 (beN ((bs.drop 4).take 8))), .slice (some ⟨G, 0, none⟩) (beN ((bs.drop 12).take 1)) (beN ((bs.drop 12).take 1)), .int .i64 0, .int .i64 0, .int .i64 0, .int .i64 0, .int .i64 0, .int .i64 0, .int .u32 0, .int .i64 0, .int .i64 0, .int .i64 0, .int .i64 0, .int .i64 0, .int .i64 0] ∧ IntsAt W (some ⟨G, 0, none⟩) (nums (bs.drop 13) (beN ((bs.drop 12).take 1))) ∧ wp.heap.size + 1 ≤ G)) → Chg (fun i => i = P ∨ i = M) (wp.alloc (.cells #[.bool false] 4)) W := fun i W hq => by
    rcases hq with ⟨rfl, A', c', hq⟩ | ⟨rfl, hl, A', c', hq⟩ | ⟨rfl, hl, A', c', hq⟩ | ⟨rfl, hl, A', c', G, hq, hby, hg⟩ <;> exact hq.chg
  refine (overR_gen wp P M fb 0 3 [65, 68, 69]
    (fun i W => (i = 0 ∧ ∃ A' c', RdSt (wp.alloc (.cells #[.bool false] 4)) W P M 42 A' c' bs #[.int .i64 2, .int .u32 0, .int .i64 0, .int .i64 0, .slice none 0 0, .int .i64 0, .int .i64 0, .int .i64 0, .int .i64 0, .int .i64 0, .int .i64 0, .int .u32 0, .int .i64 0, .int .i64 0, .int .i64 0, .int .i64 0, .int .i64 0, .int .i64 0]) ∨ (i = 1 ∧ 4 ≤ bs.length ∧ ∃ A' c', RdSt (wp.alloc (.cells #[.bool false] 4)) W P M 42 A' c' (bs.drop 4) #[.int .i64 2, .int .u32 (beN (bs.take 4) : Int), .int .i64 0, .int .i64 0, .slice none 0 0, .int .i64 0, .int .i64 0, .int .i64 0, .int .i64 0, .int .i64 0, .int .i64 0, .int .u32 0, .int .i64 0, .int .i64 0, .int .i64 0, .int .i64 0, .int .i64 0, .int .i64 0]) ∨ (i = 2 ∧ 12 ≤ bs.length ∧ ∃ A' c', RdSt (wp.alloc (.cells #[.bool false] 4)) W P M 42 A' c' (bs.drop 12) #[.int .i64 2, .int .u32 (beN (bs.take 4) : Int), .int .i64 0, .int .i64 (s64 (beN ((bs.drop 4).take 8))), .slice none 0 0, .int .i64 0, .int .i64 0, .int .i64 0, .int .i64 0, .int .i64 0, .int .i64 0, .int .u32 0, .int .i64 0, .int .i64 0, .int .i64 0, .int .i64 0, .int .i64 0, .int .i64 0]) ∨ (i = 3 ∧ (13 ≤ bs.length ∧ beN ((bs.drop 12).take 1) ≤ 8 ∧ 13 + 8 * beN ((bs.drop 12).take 1) ≤ bs.length) ∧ ∃ A' c' G, RdSt (wp.alloc (.cells #[.bool false] 4)) W P M 42 A' c' (bs.drop (13 + 8 * beN ((bs.drop 12).take 1))) #[.int .i64 2, .int .u32 (beN (bs.take 4) : Int), .int .i64 0, .int .i64 (s64 (beN ((bs.drop 4).take 8))), .slice (some ⟨G, 0, none⟩) (beN ((bs.drop 12).take 1)) (beN ((bs.drop 12).take 1)), .int .i64 0, .int .i64 0, .int .i64 0, .int .i64 0, .int .i64 0, .int .i64 0, .int .u32 0, .int .i64 0, .int .i64 0, .int .i64 0, .int .i64 0, .int .i64 0, .int .i64 0] ∧ IntsAt W (some ⟨G, 0, none⟩) (nums (bs.drop 13) (beN ((bs.drop 12).take 1))) ∧ wp.heap.size + 1 ≤ G))
    (fun W => ¬ (13 ≤ bs.length ∧ beN ((bs.drop 12).take 1) ≤ 8 ∧ bs.length = 13 + 8 * beN ((bs.drop 12).take 1)) ∧ Chg (fun i => i = P ∨ i = M) (wp.alloc (.cells #[.bool false] 4)) W)
    ?_ ?_ ?_ (fun i W hq => chgE W (chgQ i W hq)) (fun W hR => chgE W hR.2) ?_ ?_ (by simp)).mono ?_
  · intro i h args W
    have : i = 0 ∨ i = 1 ∨ i = 2 := by simp at h; omega
    rcases this with rfl | rfl | rfl
    · exact enters_of Try.func65 (by kernel_rfl) rfl args W
    · exact enters_of Try.func68 (by kernel_rfl) rfl args W
    · exact enters_of Try.func69 (by kernel_rfl) rfl args W
  · intro i W hq j h
    have hb : Blk W fb 116 #[.func (.func 65) #[] #[], .func (.func 68) #[] #[], .func (.func 69) #[] #[]] := (hF.alloc _).chg (chgQ i W hq) (fun q => q.elim hfP hfM)
    have : j = 0 ∨ j = 1 ∨ j = 2 := by simp at h; omega
    rcases this with rfl | rfl | rfl
    · exact (hb.cell 0).trans rfl
    · exact (hb.cell 1).trans rfl
    · exact (hb.cell 2).trans rfl
  · exact .inl ⟨rfl, A, c, hst⟩
  · intro i h W hq
    rcases hq with ⟨rfl, A', c', hq⟩ | ⟨rfl, hl, A', c', hq⟩ | ⟨rfl, hl, A', c', hq⟩ | ⟨rfl, hl, A', c', G, hq, hby, hg⟩
    · refine (tells1_of W P M _ (fun e w' h => rdPost_two h) (word_any _ W P M 42 A' c' bs _ 1 0 hq rfl)).mono fun e w' h => ?_
      by_cases hk : 4 ≤ bs.length
      · rw [if_pos hk] at h
        obtain ⟨h1, A2, c2, h4⟩ := h
        exact .inl ⟨h1, .inr (.inl ⟨rfl, hk, A2, c2, h4⟩)⟩
      · rw [if_neg hk] at h
        exact .inr ⟨h.1, fun q => hk (by omega), h.2⟩
    · refine (tells3_of W P M _ (fun e w' h => rdPost_two h) (long_any _ W P M 42 A' c' (bs.drop 4) _ 3 0 hq rfl)).mono fun e w' h => ?_
      by_cases hk : 8 ≤ (bs.drop 4).length
      · rw [if_pos hk] at h
        obtain ⟨h1, A2, c2, h4⟩ := h
        rw [List.drop_drop] at h4
        have hk' : 12 ≤ bs.length := by have := hk; simp at this; omega
        exact .inl ⟨h1, .inr (.inr (.inl ⟨rfl, hk', A2, c2, h4⟩))⟩
      · rw [if_neg hk] at h
        exact .inr ⟨h.1, fun q => hk (by simp; omega), h.2⟩
    · refine (tells4_of W P M _ (fun e w' h => h.elim (fun h => .inl h.2.1) (fun h => .inr h.2.1)) (vars_any _ W P M 42 A' c' (bs.drop 12) _ 4 hq rfl)).mono fun e w' h => ?_
      have hdl : (bs.drop 12).length = bs.length - 12 := by simp
      rcases h with ⟨hok, h1, A2, c2, G, h4, hby, hg⟩ | ⟨hok, h1, hc⟩
      · rw [hdl] at hok
        have e1 : 12 + (1 + 8 * beN ((bs.drop 12).take 1)) = 13 + 8 * beN ((bs.drop 12).take 1) := by omega
        rw [List.drop_drop, e1] at h4
        rw [List.drop_drop] at hby
        refine .inl ⟨h1, .inr (.inr (.inr ⟨rfl, ⟨by omega, hok.2.1, by omega⟩, A2, c2, G, h4, hby, ?_⟩))⟩
        have := hq.chg.size
        simp at this
        omega
      · rw [hdl] at hok
        exact .inr ⟨h1, fun q => hok ⟨by omega, q.2.1, by omega⟩, hc⟩
    · simp at h
  · intro W hq
    rcases hq with ⟨h, _⟩ | ⟨h, _⟩ | ⟨h, _⟩ | ⟨_, hl, A', c', G, hq, hby, hg⟩
    · simp at h
    · simp at h
    · simp at h
    · refine ⟨A', (bs.drop (13 + 8 * beN ((bs.drop 12).take 1))).length, c', (hq.pen.cell 0).trans rfl, .inr ⟨(hq.pen.cell 1).trans rfl, fun hm => ⟨fun q => ?_, hq.chg⟩⟩⟩
      rw [List.length_drop] at hm
      omega
  · intro e w' h
    rcases h with ⟨h1, W, A2, m, c2, hq, p0, p1, hw⟩ | ⟨h1, W, hR, hw⟩
    · rcases hq with ⟨h, _⟩ | ⟨h, _⟩ | ⟨h, _⟩ | ⟨_, hl, A', c', G, hq, hby, hg⟩
      · simp at h
      · simp at h
      · simp at h
      · have hp1 := (hq.pen.cell 1).trans (show #[Value.slice A' (bs.drop (13 + 8 * beN ((bs.drop 12).take 1))).length c', Value.bool true][1]? = some (.bool true) from rfl)
        have hp0 := (hq.pen.cell 0).trans (show #[Value.slice A' (bs.drop (13 + 8 * beN ((bs.drop 12).take 1))).length c', Value.bool true][0]? = some (.slice A' (bs.drop (13 + 8 * beN ((bs.drop 12).take 1))).length c') from rfl)
        rw [hp0] at p0
        injection p0 with p0
        injection p0 with _ p0 _
        have hm : m = 0 := p1.elim (fun q => by rw [hp1] at q; injection q with q; injection q with q; cases q) id
        rw [hm, List.length_drop] at p0
        exact .inl ⟨⟨hl.1, hl.2.1, by omega⟩, h1, W, G, hq.msg, hby, hg, hq.chg, hw⟩
    · exact .inr ⟨hR.1, h1, W, hR.2, hw⟩
end Go.Proofs.Ytnbcjjgilndlaaa
