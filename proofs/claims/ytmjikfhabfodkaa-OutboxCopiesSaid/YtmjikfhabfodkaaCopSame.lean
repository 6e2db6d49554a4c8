/- Outbox: Same, ours. Helper of OutboxCopies. -/
import Derived.Test.YtmjikfhabfodkaaCopCopy
namespace Go.Proofs.Ytmjikfhabfodkaa
open Go.RowKit
set_option linter.unusedVariables false
set_option linter.unusedSimpArgs false
set_option maxHeartbeats 1600000 in
theorem bsame_any (H1 H2 : Nat → Prop) (B P : Nat) (ls ls' : List (List UInt8)) (M sent sent' : Nat) (w : World) (h1 : OBh w H1 B ls M sent) (h2 : OBh w H2 P ls' M sent') (hl : ls.length ≤ 4294967295) (hs : lens ls ≤ 4294967295) (hl' : ls'.length ≤ 4294967295) (hs' : lens ls' ≤ 4294967295) :
    Calls Try.prog 19 #[.pointer (some ⟨B, 0, none⟩), .pointer (some ⟨P, 0, none⟩)] w fun e w' => e = .returned (.bool (decide (sent = sent' ∧ ls = ls'))) ∧ SI w w' := by
  obtain ⟨A, c, a0, a1, a2, htx⟩ := h1.txts hs
  obtain ⟨A', c', b0, b1, b2, htx'⟩ := h2.txts hs'
  clear h1 h2
  by_cases he : sent = sent'
  · subst he
    have hd : decide (sent = sent ∧ ls = ls') = decide (ls = ls') := by simp
    rw [hd]
    have ke := fun W (s : SI w W) => equalFunc_any A ls c A' ls' c' W (by
      rcases htx with h | ⟨b, o, h, hx⟩
      · exact .inl h
      · exact .inr ⟨b, o, h, fun i hi => by obtain ⟨q, d, x1, x2, x3⟩ := hx i hi; exact ⟨q, d, s.cell x1, s.bytes x2, x3⟩⟩) (by
      rcases htx' with h | ⟨b, o, h, hx⟩
      · exact .inl h
      · exact .inr ⟨b, o, h, fun i hi => by obtain ⟨q, d, x1, x2, x3⟩ := hx i hi; exact ⟨q, d, s.cell x1, s.bytes x2, x3⟩⟩) hl hl'
    have KE := Lib.hid ke
    have i0 : SI w w.drew := (SI.refl w).drew
    have r1 : ((M : Int) == (M : Int)) = true := beq_self_eq_true _
    have r2 : ((sent : Int) == (sent : Int)) = true := beq_self_eq_true _
    clear ke htx htx' hd hl hl' hs hs'
    generalize decide (ls = ls') = D at *
    generalize ls.length = n1 at *
    generalize ls'.length = n2 at *
    go_enter Try.func19, Try.ntmps19
    go_wp2
    go_region_held3 (fun W => SI w W ∧ W.cell? ⟨B, 0, none⟩ = some (.slice A n1 c) ∧ W.cell? ⟨B, 1, none⟩ = some (.int .i64 M) ∧ W.cell? ⟨B, 2, none⟩ = some (.int .i64 sent) ∧ W.cell? ⟨P, 0, none⟩ = some (.slice A' n2 c') ∧ W.cell? ⟨P, 1, none⟩ = some (.int .i64 M) ∧ W.cell? ⟨P, 2, none⟩ = some (.int .i64 sent)) (first | exact ⟨i0, a0, a1, a2, b0, b1, b2⟩ | exact ⟨by assumption, SI.cell (by assumption) a0, SI.cell (by assumption) a1, SI.cell (by assumption) a2, SI.cell (by assumption) b0, SI.cell (by assumption) b1, SI.cell (by assumption) b2⟩) (first
      | (go_at_call 26; refine (KE.out _ (by assumption)).mono ?_; rintro e w5 ⟨rfl, i5⟩; have i6 := SI.trans (by assumption) i5))
    all_goals go_wp2
    all_goals go_ret
    all_goals exact ⟨rfl, by assumption⟩
  · have hd : decide (sent = sent' ∧ ls = ls') = false := by simp [he]
    rw [hd]
    have r2 : ((sent : Int) == (sent' : Int)) = false := beq_eq_false_iff_ne.2 (by omega)
    have r3 : (sent == sent') = false := beq_eq_false_iff_ne.2 he
    have r4 : decide ((sent : Int) = (sent' : Int)) = false := decide_eq_false (by omega)
    have r5 : decide (sent = sent') = false := decide_eq_false he
    clear htx htx' hd hl hl' hs hs' he
    generalize ls.length = n1 at *
    generalize ls'.length = n2 at *
    go_enter Try.func19, Try.ntmps19
    go_wp2
    go_quiet (fail)
    all_goals go_wp2
    all_goals go_ret
    all_goals exact ⟨rfl, rfl, rfl, rfl, rfl, Nat.le_refl _, fun _ _ => rfl⟩
end Go.Proofs.Ytmjikfhabfodkaa
