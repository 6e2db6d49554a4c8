/- Frames: what is told of frames, one behind the other. No program in sight. Helper. -/
import Derived.Test.YtalcafaibmbgjaaDoorFrmTold
namespace Go.Proofs.YtalcafaibmbgjaaDoor
open Go.RowKit
set_option linter.unusedVariables false
set_option linter.unusedSimpArgs false
theorem frameB_length (l : List UInt8) : (frameB l).length = 6 + l.length := by simp [frameB, headB]; omega
theorem toldF_frame (s : List UInt8) (f at_ : Nat) (l rest : List UInt8) (h : s.drop at_ = frameB l ++ rest) (h1 : 1 ≤ l.length) (h2 : l.length ≤ 4096) :
    toldF s (f + 1) at_ = ((at_ + 6, l.length) :: (toldF s f (at_ + 6 + l.length)).1, (toldF s f (at_ + 6 + l.length)).2) := by
  have hlen : s.length - at_ = 6 + l.length + rest.length := by
    have := congrArg List.length h
    rw [List.length_drop, List.length_append, frameB_length] at this
    exact this
  have g0 : s.getD at_ 0 = UInt8.ofNat (l.length / 256) := by
    have : (s.drop at_)[0]? = (frameB l ++ rest)[0]? := by rw [h]
    rw [List.getElem?_drop, Nat.add_zero] at this
    rw [List.getD_eq_getElem?_getD, this]
    simp [frameB, headB]
  have g1 : s.getD (at_ + 1) 0 = UInt8.ofNat l.length := by
    have : (s.drop at_)[1]? = (frameB l ++ rest)[1]? := by rw [h]
    rw [List.getElem?_drop] at this
    rw [List.getD_eq_getElem?_getD, this]
    simp [frameB, headB]
  have hN : 256 * (s.getD at_ 0).toNat + (s.getD (at_ + 1) 0).toNat = l.length := by
    rw [g0, g1, UInt8.toNat_ofNat', UInt8.toNat_ofNat']
    omega
  have e1 : (s.drop (at_ + 6)).take l.length = l := by
    rw [← List.drop_drop, h, List.drop_append_of_le_length (by rw [frameB_length]; omega)]
    have : (frameB l).drop 6 = l := by rw [frameB]; exact List.drop_left' rfl
    rw [this]
    exact List.take_left' rfl
  have e2 : (s.drop at_).take (6 + l.length) = frameB l := by rw [h]; exact List.take_left' (frameB_length l)
  rw [toldF, hN, if_neg (by omega), if_neg (by omega), if_neg (by omega), e1, e2, if_neg (by simp)]
theorem toldF_frames (ls : List (List UInt8)) (hl : ∀ l ∈ ls, 1 ≤ l.length ∧ l.length ≤ 4096) (s : List UInt8) (f at_ : Nat) (h : s.drop at_ = (ls.map frameB).flatten) (ha : at_ ≤ s.length) (hf : ls.length ≤ f) :
    (toldF s f at_).1.length = ls.length ∧ (toldF s f at_).2 = (0, s.length) := by
  induction ls generalizing f at_ with
  | nil =>
    have hz : s.length - at_ = 0 := by have := congrArg List.length h; simpa using this
    rw [toldF_stop s f at_ (by omega)]
    exact ⟨rfl, by rw [show at_ = s.length by omega]⟩
  | cons l ls ih =>
    obtain ⟨h1, h2⟩ := hl l (by simp)
    simp only [List.map_cons, List.flatten_cons] at h
    obtain ⟨f, rfl⟩ : ∃ f', f = f' + 1 := ⟨f - 1, by simp at hf; omega⟩
    rw [toldF_frame s f at_ l _ h h1 h2]
    have hlen : s.length - at_ = 6 + l.length + (ls.map frameB).flatten.length := by
      have := congrArg List.length h
      rw [List.length_drop, List.length_append, frameB_length] at this
      exact this
    have hd : s.drop (at_ + 6 + l.length) = (ls.map frameB).flatten := by
      rw [Nat.add_assoc, ← List.drop_drop, h]
      exact List.drop_left' (frameB_length l)
    obtain ⟨i1, i2⟩ := ih (fun x hx => hl x (by simp [hx])) f (at_ + 6 + l.length) hd (by omega) (by simp at hf; omega)
    exact ⟨by simp [i1], i2⟩
theorem told_frames (ls : List (List UInt8)) (hl : ∀ l ∈ ls, 1 ≤ l.length ∧ l.length ≤ 4096) : (told (ls.map frameB).flatten).1.length = ls.length ∧ (told (ls.map frameB).flatten).2 = (0, (ls.map frameB).flatten.length) := by
  refine toldF_frames ls hl _ _ 0 rfl (Nat.zero_le _) ?_
  have : ∀ ls : List (List UInt8), ls.length ≤ (ls.map frameB).flatten.length := by
    intro ls
    induction ls with
    | nil => simp
    | cons l ls ih => simp only [List.map_cons, List.flatten_cons, List.length_append, frameB_length, List.length_cons]; omega
  exact this ls
end Go.Proofs.YtalcafaibmbgjaaDoor
