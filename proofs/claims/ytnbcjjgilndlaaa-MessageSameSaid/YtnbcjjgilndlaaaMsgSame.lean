/- Messages: requests and responses; which are the same. Helper. -/
import Derived.Test.YtnbcjjgilndlaaaMsgA
import Derived.BigQuiet
namespace Go.Proofs.Ytnbcjjgilndlaaa
open Go.RowKit
set_option linter.unusedVariables false
set_option linter.unusedSimpArgs false
set_option maxRecDepth 100000
/-- A request. -/
structure Rq where
  k : Int
  id : Int
  ver : Int
  md : List UInt8
  T : Int
  O : Int
  S : Int
  tt : Int
  kd : Int
  da : Int
  nu : Int
  bp : Int
  bk : Int
  bt : Int
  pr : Int
  nm : Int
  dn : Int
deriving DecidableEq
/-- Its cells. -/
def Rq.c (q : Rq) (A : Option Addr) (c : Nat) : List Value := [.int .i64 q.k, .int .u32 q.id, .int .i64 q.ver, .slice A q.md.length c, .int .i64 q.T, .int .i64 q.O, .int .i64 q.S, .int .i64 q.tt, .int .i64 q.kd, .int .i64 q.da, .int .u32 q.nu, .int .i64 q.bp, .int .i64 q.bk, .int .i64 q.bt, .int .i64 q.pr, .int .i64 q.nm, .int .i64 q.dn]
/-- A response. -/
structure Rs where
  k : Int
  id : Int
  er : Int
  fl : Int
  vs : List Int
  rT : Int
  rO : Int
  rS : Int
  rp : Int
  rn : Int
  rv : Int
  nu : Int
  T : Int
  O : Int
  S : Int
  tt : Int
  kd : Int
  da : Int
deriving DecidableEq
/-- Its cells. -/
def Rs.c (q : Rs) (A : Option Addr) (c : Nat) : List Value := [.int .i64 q.k, .int .u32 q.id, .int .i64 q.er, .int .i64 q.fl, .slice A q.vs.length c, .int .i64 q.rT, .int .i64 q.rO, .int .i64 q.rS, .int .i64 q.rp, .int .i64 q.rn, .int .i64 q.rv, .int .u32 q.nu, .int .i64 q.T, .int .i64 q.O, .int .i64 q.S, .int .i64 q.tt, .int .i64 q.kd, .int .i64 q.da]
/-- Numbers in memory. -/
def IntsAt (w : World) (A : Option Addr) (l : List Int) : Prop := Rd w A (l.map fun n => .int .i64 n)
theorem IntsAt.get {w : World} {a : Option Addr} {l : List Int} (h : IntsAt w a l) {k : Nat} (hk : k < l.length) :
    ∃ b off, a = some ⟨b, off, none⟩ ∧ w.cell? ⟨b, off + k, none⟩ = some (.int .i64 l[k]) := by
  obtain ⟨b, off, rfl, hb, hc⟩ := Rd.get h (k := k) (by simpa using hk)
  exact ⟨b, off, rfl, hc k _ (by simp [hk])⟩
theorem Rd.nw {w w' : World} {A : Option Addr} {xs : List Value} (h : Rd w A xs) (hN : Nw w w') : Rd w' A xs := by
  rcases h with h | ⟨b, o, e, h⟩
  · exact .inl h
  · exact .inr ⟨b, o, e, fun j u hu => hN.cell (h j u hu)⟩
set_option maxHeartbeats 3200000 in
theorem eqBytes_any (A B : Option Addr) (c d : Nat) (l m : List UInt8) (w : World) (hA : BytesAt w A l) (hB : BytesAt w B m) (hl : l.length ≤ 9223372036854775807) (hm : m.length ≤ 9223372036854775807) :
    Calls Try.prog 35 #[.slice A l.length c, .slice B m.length d] w fun r w' => r = .returned (.bool (decide (l = m))) ∧ Nw w w' := by
  by_cases hlm : l.length = m.length
  · obtain ⟨n, hn⟩ : ∃ n, l.length = n := ⟨_, rfl⟩
    have hn2 : m.length = n := by rw [← hlm]; exact hn
    rw [hn, hn2]
    rw [hn] at hl
    have HN := Lib.hid (And.intro hn hn2)
    have HA := Lib.hid hA
    have HB := Lib.hid hB
    obtain ⟨R, hR⟩ : ∃ R, decide (l = m) = R := ⟨_, rfl⟩
    have HR := Lib.hid hR
    rw [hR]
    clear hR hA hB hlm hm hn hn2
    go_enter Try.func35, Try.ntmps35
    go_wp2_with fail
    go_loopw [13] (fun y wr => ∃ k : Nat, k ≤ n ∧ y = .int .i64 (k : Int) ∧ Hid (Nw w wr ∧ ∀ j (h1 : j < l.length) (h2 : j < m.length), j < k → l[j] = m[j])) (fun y _ => n - (intOf y).toNat)
    case atStart => exact ⟨0, Nat.zero_le _, rfl, Lib.hid ⟨Nw.refl w, fun j _ _ hj => by omega⟩⟩
    case round =>
      obtain ⟨k, hk, rfl, HI⟩ := hrel
      by_cases hlt : k < n
      · have g1 : (k : Int) < (n : Int) := by omega
        have hkl : k < l.length := by rw [HN.out.1]; exact hlt
        have hkm : k < m.length := by rw [HN.out.2]; exact hlt
        obtain ⟨b, o, rfl, it⟩ := BytesAt.get (HA.out.nw HI.out.1) (k := k) hkl
        obtain ⟨b2, o2, rfl, iu⟩ := BytesAt.get (HB.out.nw HI.out.1) (k := k) hkm
        obtain ⟨x, hx⟩ : ∃ x : Int, ((l[k]'hkl).toNat : Int) = x := ⟨_, rfl⟩
        obtain ⟨y, hy⟩ : ∃ y : Int, ((m[k]'hkm).toNat : Int) = y := ⟨_, rfl⟩
        rw [hx] at it
        rw [hy] at iu
        have HXY := Lib.hid (And.intro hx hy)
        clear hx hy
        by_cases hxy : x = y
        · subst hxy
          have he : l[k] = m[k] := by have h := HXY.out.1.trans HXY.out.2.symm; exact UInt8.toNat_inj.1 (by omega)
          have HE := Lib.hid he
          clear he
          go_upto_region 6 with (fail)
          go_quiet (fail)
          go_wp2_with fail
          go_roundw
          case rel =>
            refine ⟨k + 1, hlt, by go_num, Lib.hid ⟨HI.out.1.step (Below.many (Nw.refl wr) _), fun j h1 h2 hj => ?_⟩⟩
            by_cases e : j = k
            · subst e; exact HE.out
            · exact HI.out.2 j h1 h2 (by omega)
          case measure => simp [intOf]; omega
        · have hRf : R = false := by
            rw [← HR.out]
            refine decide_eq_false fun e => hxy ?_
            rw [← HXY.out.1, ← HXY.out.2]
            subst e; rfl
          subst hRf
          go_upto_region 6 with (fail)
          go_quiet (fail)
          go_wp2_with fail
          go_ret
          exact ⟨rfl, HI.out.1.step (Below.many (Nw.refl wr) _)⟩
      · obtain rfl : k = n := by omega
        have g1 : ¬ (k : Int) < (k : Int) := by omega
        have hRt : R = true := by
          rw [← HR.out]
          refine decide_eq_true ?_
          apply List.ext_getElem (by rw [HN.out.1, HN.out.2])
          intro j h1 h2
          exact HI.out.2 j h1 h2 (by rw [← HN.out.1]; exact h1)
        subst hRt
        go_wp2_with fail
        go_ret
        exact ⟨rfl, HI.out.1⟩
  · have hne : ¬ (l.length : Int) = (m.length : Int) := by omega
    rw [decide_eq_false (fun e => hlm (by rw [e]))]
    clear hA hB
    go_enter Try.func35, Try.ntmps35
    go_wp2_with fail
    go_ret
    exact ⟨rfl, Nw.refl w⟩
set_option maxHeartbeats 3200000 in
theorem eqInts_any (A B : Option Addr) (c d : Nat) (l m : List Int) (w : World) (hA : IntsAt w A l) (hB : IntsAt w B m) (hl : l.length ≤ 9223372036854775807) (hm : m.length ≤ 9223372036854775807) :
    Calls Try.prog 36 #[.slice A l.length c, .slice B m.length d] w fun r w' => r = .returned (.bool (decide (l = m))) ∧ Nw w w' := by
  by_cases hlm : l.length = m.length
  · obtain ⟨n, hn⟩ : ∃ n, l.length = n := ⟨_, rfl⟩
    have hn2 : m.length = n := by rw [← hlm]; exact hn
    rw [hn, hn2]
    rw [hn] at hl
    have HN := Lib.hid (And.intro hn hn2)
    have HA := Lib.hid hA
    have HB := Lib.hid hB
    obtain ⟨R, hR⟩ : ∃ R, decide (l = m) = R := ⟨_, rfl⟩
    have HR := Lib.hid hR
    rw [hR]
    clear hR hA hB hlm hm hn hn2
    go_enter Try.func36, Try.ntmps36
    go_wp2_with fail
    go_loopw [13] (fun y wr => ∃ k : Nat, k ≤ n ∧ y = .int .i64 (k : Int) ∧ Hid (Nw w wr ∧ ∀ j (h1 : j < l.length) (h2 : j < m.length), j < k → l[j] = m[j])) (fun y _ => n - (intOf y).toNat)
    case atStart => exact ⟨0, Nat.zero_le _, rfl, Lib.hid ⟨Nw.refl w, fun j _ _ hj => by omega⟩⟩
    case round =>
      obtain ⟨k, hk, rfl, HI⟩ := hrel
      by_cases hlt : k < n
      · have g1 : (k : Int) < (n : Int) := by omega
        have hkl : k < l.length := by rw [HN.out.1]; exact hlt
        have hkm : k < m.length := by rw [HN.out.2]; exact hlt
        obtain ⟨b, o, rfl, it⟩ := IntsAt.get (HA.out.nw HI.out.1) (k := k) hkl
        obtain ⟨b2, o2, rfl, iu⟩ := IntsAt.get (HB.out.nw HI.out.1) (k := k) hkm
        obtain ⟨x, hx⟩ : ∃ x : Int, l[k]'hkl = x := ⟨_, rfl⟩
        obtain ⟨y, hy⟩ : ∃ y : Int, m[k]'hkm = y := ⟨_, rfl⟩
        rw [hx] at it
        rw [hy] at iu
        have HXY := Lib.hid (And.intro hx hy)
        clear hx hy
        by_cases hxy : x = y
        · subst hxy
          have he : l[k] = m[k] := HXY.out.1.trans HXY.out.2.symm
          have HE := Lib.hid he
          clear he
          go_upto_region 6 with (fail)
          go_quiet (fail)
          go_wp2_with fail
          go_roundw
          case rel =>
            refine ⟨k + 1, hlt, by go_num, Lib.hid ⟨HI.out.1.step (Below.many (Nw.refl wr) _), fun j h1 h2 hj => ?_⟩⟩
            by_cases e : j = k
            · subst e; exact HE.out
            · exact HI.out.2 j h1 h2 (by omega)
          case measure => simp [intOf]; omega
        · have hRf : R = false := by
            rw [← HR.out]
            refine decide_eq_false fun e => hxy ?_
            rw [← HXY.out.1, ← HXY.out.2]
            subst e; rfl
          subst hRf
          go_upto_region 6 with (fail)
          go_quiet (fail)
          go_wp2_with fail
          go_ret
          exact ⟨rfl, HI.out.1.step (Below.many (Nw.refl wr) _)⟩
      · obtain rfl : k = n := by omega
        have g1 : ¬ (k : Int) < (k : Int) := by omega
        have hRt : R = true := by
          rw [← HR.out]
          refine decide_eq_true ?_
          apply List.ext_getElem (by rw [HN.out.1, HN.out.2])
          intro j h1 h2
          exact HI.out.2 j h1 h2 (by rw [← HN.out.1]; exact h1)
        subst hRt
        go_wp2_with fail
        go_ret
        exact ⟨rfl, HI.out.1⟩
  · have hne : ¬ (l.length : Int) = (m.length : Int) := by omega
    rw [decide_eq_false (fun e => hlm (by rw [e]))]
    clear hA hB
    go_enter Try.func36, Try.ntmps36
    go_wp2_with fail
    go_ret
    exact ⟨rfl, Nw.refl w⟩
end Go.Proofs.Ytnbcjjgilndlaaa
