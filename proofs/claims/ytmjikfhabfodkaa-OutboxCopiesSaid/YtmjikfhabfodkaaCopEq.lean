/- Outbox: slices.Equal of bytes, slices.EqualFunc with it. Helper of OutboxCopies. -/
import Derived.Test.YtmjikfhabfodkaaBoxSame
import Derived.Deep.QuietTactic
import Derived.BigQuiet
namespace Go.Proofs.Ytmjikfhabfodkaa
open Go.RowKit
set_option linter.unusedVariables false
set_option linter.unusedSimpArgs false
theorem SI.refl (w : World) : SI w w := ⟨rfl, Below.refl _ _⟩
theorem SI.trans {w a b : World} (h : SI w a) (k : SI a b) : SI w b := ⟨k.heap.trans h.heap, h.below.trans (k.below.mono h.below.size)⟩
theorem SI.drew {w a : World} (h : SI w a) : SI w a.drew := ⟨h.heap, h.below.drew⟩
theorem SI.bytes {w a : World} (h : SI w a) {A : Option Addr} {l : List UInt8} (g : BytesAt w A l) : BytesAt a A l := BytesAt.below g h.below (Nat.le_refl _)
theorem take_ne {α : Type} {l l' : List α} {k : Nat} (h1 : k < l.length) (h2 : k < l'.length) (h : l[k] ≠ l'[k]) : l ≠ l' := fun e => by subst e; exact h rfl
theorem take_snoc_eq {α : Type} {l l' : List α} {k : Nat} (h1 : k < l.length) (h2 : k < l'.length) (h : l.take k = l'.take k) (he : l[k] = l'[k]) : l.take (k + 1) = l'.take (k + 1) := by
  rw [List.take_succ_eq_append_getElem h1, List.take_succ_eq_append_getElem h2, h, he]
set_option maxHeartbeats 800000 in
theorem equal_any (A : Option Addr) (l : List UInt8) (c : Nat) (A' : Option Addr) (l' : List UInt8) (c' : Nat) (w : World) (h : BytesAt w A l) (h' : BytesAt w A' l') (hl : l.length ≤ 4294967295) (hl' : l'.length ≤ 4294967295) :
    Calls Try.prog 27 #[.slice A l.length c, .slice A' l'.length c'] w fun e w' => e = .returned (.bool (decide (l = l'))) ∧ SI w w' := by
  by_cases hn : l.length = l'.length
  · go_enter Try.func27, Try.ntmps27
    have g0 : ((l.length : Int) != (l'.length : Int)) = false := by simp; omega
    have HN := Lib.hid hn
    have H := Lib.hid h
    have H' := Lib.hid h'
    clear hn h h'
    go_wp2
    go_loopw [13] (fun i wx => ∃ k : Nat, k ≤ l.length ∧ i = .int .i64 k ∧ Hid (l.take k = l'.take k) ∧ SI w wx) (fun i _ => l.length - (intOf i).toNat)
    case atStart => exact ⟨0, Nat.zero_le _, rfl, Lib.hid rfl, SI.refl w⟩
    case round =>
      obtain ⟨k, hk, rfl, HT, hs⟩ := hrel
      have HS := Lib.hid hs
      clear hs
      by_cases hlt : k < l.length
      · have hlt2 : k < l'.length := by have := HN.out; omega
        obtain ⟨b, o, rfl, _, hc⟩ := (HS.out.bytes H.out).get hlt
        obtain ⟨b', o', rfl, _, hc'⟩ := (HS.out.bytes H'.out).get hlt2
        have gk : (k : Int) < (l.length : Int) := by omega
        have gk2 : (k : Int) < (l'.length : Int) := by omega
        by_cases he : l[k] = l'[k]
        · have HE := Lib.hid he
          rw [← he] at hc'
          have hb := l[k].toNat_lt
          generalize l[k].toNat = q at *
          clear he
          go_wp2
          go_quiet (fail)
          go_wp2
          go_roundw
          case rel => exact ⟨k + 1, hlt, by go_num, Lib.hid (take_snoc_eq hlt hlt2 HT.out HE.out), HS.out.trans ⟨rfl, rfl, rfl, rfl, Nat.le_refl _, fun _ _ => rfl⟩⟩
          case measure => simp [intOf]; omega
        · have HE := Lib.hid he
          have gq : ((l[k].toNat : Int) != (l'[k].toNat : Int)) = true := by
            rw [bne_iff_ne]; intro e; exact he (UInt8.toNat_inj.1 (by omega))
          have hb := l[k].toNat_lt
          have hb' := l'[k].toNat_lt
          generalize l[k].toNat = q at *
          generalize l'[k].toNat = q' at *
          clear he
          go_wp2
          go_quiet (fail)
          go_wp2
          go_ret
          exact ⟨ret_bool (by rw [decide_eq_false (take_ne hlt hlt2 HE.out)]), HS.out.trans ⟨rfl, rfl, rfl, rfl, Nat.le_refl _, fun _ _ => rfl⟩⟩
      · obtain rfl : k = l.length := by omega
        have HE : Hid (l = l') := Lib.hid (by have := HT.out; rwa [List.take_length, HN.out, List.take_length] at this)
        go_wp2
        go_ret
        exact ⟨ret_bool (by rw [decide_eq_true HE.out]), HS.out⟩
  · have g0 : ((l.length : Int) != (l'.length : Int)) = true := by simp; omega
    have HE : Hid (l ≠ l') := Lib.hid (fun e => hn (by rw [e]))
    clear hn
    go_enter Try.func27, Try.ntmps27
    go_wp2
    go_ret
    exact ⟨ret_bool (by rw [decide_eq_false HE.out]), SI.refl w⟩
/-- A slice of texts. -/
def TxtsAt (w : World) (A : Option Addr) (ls : List (List UInt8)) : Prop :=
  ls = [] ∨ ∃ b o, A = some ⟨b, o, none⟩ ∧ ∀ i (h : i < ls.length), ∃ A' c, w.cell? ⟨b, o + i, none⟩ = some (.slice A' ls[i].length c) ∧ BytesAt w A' ls[i] ∧ ls[i].length ≤ 4294967295
theorem TxtsAt.get {w : World} {A : Option Addr} {ls : List (List UInt8)} (h : TxtsAt w A ls) {i : Nat} (hi : i < ls.length) :
    ∃ b o A' c, A = some ⟨b, o, none⟩ ∧ w.cell? ⟨b, o + i, none⟩ = some (.slice A' ls[i].length c) ∧ BytesAt w A' ls[i] ∧ ls[i].length ≤ 4294967295 := by
  rcases h with rfl | ⟨b, o, rfl, h⟩
  · simp at hi
  · obtain ⟨A', c, h1, h2, h3⟩ := h i hi
    exact ⟨b, o, A', c, rfl, h1, h2, h3⟩
set_option maxHeartbeats 800000 in
theorem equalFunc_any (A : Option Addr) (ls : List (List UInt8)) (c : Nat) (A' : Option Addr) (ls' : List (List UInt8)) (c' : Nat) (w : World) (h : TxtsAt w A ls) (h' : TxtsAt w A' ls') (hl : ls.length ≤ 4294967295) (hl' : ls'.length ≤ 4294967295) :
    Calls Try.prog 26 #[.slice A ls.length c, .slice A' ls'.length c', .func (.func 27) #[] #[]] w fun e w' => e = .returned (.bool (decide (ls = ls'))) ∧ SI w w' := by
  by_cases hn : ls.length = ls'.length
  · have g0 : ((ls.length : Int) != (ls'.length : Int)) = false := by simp; omega
    have HN := Lib.hid hn
    have H := Lib.hid h
    have H' := Lib.hid h'
    clear hn h h'
    go_enter Try.func26, Try.ntmps26
    go_wp2
    go_loopw [17] (fun i wx => ∃ k : Nat, k ≤ ls.length ∧ i = .int .i64 k ∧ Hid (ls.take k = ls'.take k) ∧ SI w wx) (fun i _ => ls.length - (intOf i).toNat)
    case atStart => exact ⟨0, Nat.zero_le _, rfl, Lib.hid rfl, SI.refl w⟩
    case round =>
      obtain ⟨k, hk, rfl, HT, hs⟩ := hrel
      have HS := Lib.hid hs
      clear hs
      by_cases hlt : k < ls.length
      · have hlt2 : k < ls'.length := by have := HN.out; omega
        obtain ⟨b, o, B, d, rfl, hc, hby, hle⟩ := H.out.get hlt
        obtain ⟨b', o', B', d', rfl, hc', hby', hle'⟩ := H'.out.get hlt2
        have hcx := HS.out.cell hc
        have hcx' := HS.out.cell hc'
        have gk : (k : Int) < (ls.length : Int) := by omega
        have gk2 : (k : Int) < (ls'.length : Int) := by omega
        have ke := equal_any B ls[k] d B' ls'[k] d' wr (HS.out.bytes hby) (HS.out.bytes hby') hle hle'
        clear hc hc' hby hby'
        by_cases he : ls[k] = ls'[k]
        · rw [decide_eq_true he] at ke
          have HE := Lib.hid he
          have KE := Lib.hid ke
          clear he ke
          generalize ls[k].length = n1 at *
          generalize ls'[k].length = n2 at *
          go_wp2_with fail
          refine KE.out.mono ?_
          rintro e w1 ⟨rfl, s1⟩
          have HS1 := Lib.hid (HS.out.trans s1)
          clear s1 hcx hcx'
          go_wp2_with fail
          go_roundw
          case rel => exact ⟨k + 1, hlt, by go_num, Lib.hid (take_snoc_eq hlt hlt2 HT.out HE.out), HS1.out⟩
          case measure => simp [intOf]; omega
        · rw [decide_eq_false he] at ke
          have HE := Lib.hid he
          have KE := Lib.hid ke
          clear he ke
          generalize ls[k].length = n1 at *
          generalize ls'[k].length = n2 at *
          go_wp2_with fail
          refine KE.out.mono ?_
          rintro e w1 ⟨rfl, s1⟩
          have HS1 := Lib.hid (HS.out.trans s1)
          clear s1 hcx hcx'
          go_wp2_with fail
          go_ret
          exact ⟨ret_bool (by rw [decide_eq_false (take_ne hlt hlt2 HE.out)]), HS1.out⟩
      · obtain rfl : k = ls.length := by omega
        have HE : Hid (ls = ls') := Lib.hid (by have := HT.out; rwa [List.take_length, HN.out, List.take_length] at this)
        go_wp2
        go_ret
        exact ⟨ret_bool (by rw [decide_eq_true HE.out]), HS.out⟩
  · have g0 : ((ls.length : Int) != (ls'.length : Int)) = true := by simp; omega
    have HE : Hid (ls ≠ ls') := Lib.hid (fun e => hn (by rw [e]))
    clear hn
    go_enter Try.func26, Try.ntmps26
    go_wp2
    go_ret
    exact ⟨ret_bool (by rw [decide_eq_false HE.out]), SI.refl w⟩
end Go.Proofs.Ytmjikfhabfodkaa
