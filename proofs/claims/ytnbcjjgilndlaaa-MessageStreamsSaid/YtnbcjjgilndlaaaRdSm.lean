/- Messages: which are the same. Helper. -/
import Derived.Test.YtnbcjjgilndlaaaRdPen
import Derived.BigQuiet
namespace Go.Proofs.Ytnbcjjgilndlaaa
open Go.RowKit
set_option linter.unusedVariables false
set_option linter.unusedSimpArgs false
set_option maxRecDepth 100000
/-- A request. -/
structure Rq where
  k : Int
  id : Int
  ver : Int
  md : List UInt8
  T : Int
  O : Int
  S : Int
  tt : Int
  kd : Int
  da : Int
  nu : Int
  bp : Int
  bk : Int
  bt : Int
  pr : Int
  nm : Int
  dn : Int
deriving DecidableEq
/-- Its cells. -/
def Rq.c (q : Rq) (A : Option Addr) (c : Nat) : List Value := [.int .i64 q.k, .int .u32 q.id, .int .i64 q.ver, .slice A q.md.length c, .int .i64 q.T, .int .i64 q.O, .int .i64 q.S, .int .i64 q.tt, .int .i64 q.kd, .int .i64 q.da, .int .u32 q.nu, .int .i64 q.bp, .int .i64 q.bk, .int .i64 q.bt, .int .i64 q.pr, .int .i64 q.nm, .int .i64 q.dn]
/-- A response. -/
structure Rs where
  k : Int
  id : Int
  er : Int
  fl : Int
  vs : List Int
  rT : Int
  rO : Int
  rS : Int
  rp : Int
  rn : Int
  rv : Int
  nu : Int
  T : Int
  O : Int
  S : Int
  tt : Int
  kd : Int
  da : Int
deriving DecidableEq
/-- Its cells. -/
def Rs.c (q : Rs) (A : Option Addr) (c : Nat) : List Value := [.int .i64 q.k, .int .u32 q.id, .int .i64 q.er, .int .i64 q.fl, .slice A q.vs.length c, .int .i64 q.rT, .int .i64 q.rO, .int .i64 q.rS, .int .i64 q.rp, .int .i64 q.rn, .int .i64 q.rv, .int .u32 q.nu, .int .i64 q.T, .int .i64 q.O, .int .i64 q.S, .int .i64 q.tt, .int .i64 q.kd, .int .i64 q.da]
/-- Numbers in memory. -/
def IntsAt (w : World) (A : Option Addr) (l : List Int) : Prop := Rd w A (l.map fun n => .int .i64 n)
theorem IntsAt.get {w : World} {a : Option Addr} {l : List Int} (h : IntsAt w a l) {k : Nat} (hk : k < l.length) :
    ∃ b off, a = some ⟨b, off, none⟩ ∧ w.cell? ⟨b, off + k, none⟩ = some (.int .i64 l[k]) := by
  obtain ⟨b, off, rfl, hb, hc⟩ := Rd.get h (k := k) (by simpa using hk)
  exact ⟨b, off, rfl, hc k _ (by simp [hk])⟩
theorem Rd.nw {w w' : World} {A : Option Addr} {xs : List Value} (h : Rd w A xs) (hN : Nw w w') : Rd w' A xs := by
  rcases h with h | ⟨b, o, e, h⟩
  · exact .inl h
  · exact .inr ⟨b, o, e, fun j u hu => hN.cell (h j u hu)⟩
set_option maxHeartbeats 3200000 in
theorem eqBytes_any (A B : Option Addr) (c d : Nat) (l m : List UInt8) (w : World) (hA : BytesAt w A l) (hB : BytesAt w B m) (hl : l.length ≤ 9223372036854775807) (hm : m.length ≤ 9223372036854775807) :
    Calls Try.prog 35 #[.slice A l.length c, .slice B m.length d] w fun r w' => r = .returned (.bool (decide (l = m))) ∧ Nw w w' := by
  by_cases hlm : l.length = m.length
  · obtain ⟨n, hn⟩ : ∃ n, l.length = n := ⟨_, rfl⟩
    have hn2 : m.length = n := by rw [← hlm]; exact hn
    rw [hn, hn2]
    rw [hn] at hl
    have HN := Lib.hid (And.intro hn hn2)
    have HA := Lib.hid hA
    have HB := Lib.hid hB
    obtain ⟨R, hR⟩ : ∃ R, decide (l = m) = R := ⟨_, rfl⟩
    have HR := Lib.hid hR
    rw [hR]
    clear hR hA hB hlm hm hn hn2
    go_enter Try.func35, Try.ntmps35
    go_wp2_with fail
    go_loopw [13] (fun y wr => ∃ k : Nat, k ≤ n ∧ y = .int .i64 (k : Int) ∧ Hid (Nw w wr ∧ ∀ j (h1 : j < l.length) (h2 : j < m.length), j < k → l[j] = m[j])) (fun y _ => n - (intOf y).toNat)
    case atStart => exact ⟨0, Nat.zero_le _, rfl, Lib.hid ⟨Nw.refl w, fun j _ _ hj => by omega⟩⟩
    case round =>
      obtain ⟨k, hk, rfl, HI⟩ := hrel
      by_cases hlt : k < n
      · have g1 : (k : Int) < (n : Int) := by omega
        have hkl : k < l.length := by rw [HN.out.1]; exact hlt
        have hkm : k < m.length := by rw [HN.out.2]; exact hlt
        obtain ⟨b, o, rfl, it⟩ := BytesAt.get (HA.out.nw HI.out.1) (k := k) hkl
        obtain ⟨b2, o2, rfl, iu⟩ := BytesAt.get (HB.out.nw HI.out.1) (k := k) hkm
        obtain ⟨x, hx⟩ : ∃ x : Int, ((l[k]'hkl).toNat : Int) = x := ⟨_, rfl⟩
        obtain ⟨y, hy⟩ : ∃ y : Int, ((m[k]'hkm).toNat : Int) = y := ⟨_, rfl⟩
        rw [hx] at it
        rw [hy] at iu
        have HXY := Lib.hid (And.intro hx hy)
        clear hx hy
        by_cases hxy : x = y
        · subst hxy
          have he : l[k] = m[k] := by have h := HXY.out.1.trans HXY.out.2.symm; exact UInt8.toNat_inj.1 (by omega)
          have HE := Lib.hid he
          clear he
          go_upto_region 6 with (fail)
          go_quiet (fail)
          go_wp2_with fail
          go_roundw
          case rel =>
            refine ⟨k + 1, hlt, by go_num, Lib.hid ⟨HI.out.1.step (Below.many (Nw.refl wr) _), fun j h1 h2 hj => ?_⟩⟩
            by_cases e : j = k
            · subst e; exact HE.out
            · exact HI.out.2 j h1 h2 (by omega)
          case measure => simp [intOf]; omega
        · have hRf : R = false := by
            rw [← HR.out]
            refine decide_eq_false fun e => hxy ?_
            rw [← HXY.out.1, ← HXY.out.2]
            subst e; rfl
          subst hRf
          go_upto_region 6 with (fail)
          go_quiet (fail)
          go_wp2_with fail
          go_ret
          exact ⟨rfl, HI.out.1.step (Below.many (Nw.refl wr) _)⟩
      · obtain rfl : k = n := by omega
        have g1 : ¬ (k : Int) < (k : Int) := by omega
        have hRt : R = true := by
          rw [← HR.out]
          refine decide_eq_true ?_
          apply List.ext_getElem (by rw [HN.out.1, HN.out.2])
          intro j h1 h2
          exact HI.out.2 j h1 h2 (by rw [← HN.out.1]; exact h1)
        subst hRt
        go_wp2_with fail
        go_ret
        exact ⟨rfl, HI.out.1⟩
  · have hne : ¬ (l.length : Int) = (m.length : Int) := by omega
    rw [decide_eq_false (fun e => hlm (by rw [e]))]
    clear hA hB
    go_enter Try.func35, Try.ntmps35
    go_wp2_with fail
    go_ret
    exact ⟨rfl, Nw.refl w⟩
set_option maxHeartbeats 3200000 in
theorem eqInts_any (A B : Option Addr) (c d : Nat) (l m : List Int) (w : World) (hA : IntsAt w A l) (hB : IntsAt w B m) (hl : l.length ≤ 9223372036854775807) (hm : m.length ≤ 9223372036854775807) :
    Calls Try.prog 36 #[.slice A l.length c, .slice B m.length d] w fun r w' => r = .returned (.bool (decide (l = m))) ∧ Nw w w' := by
  by_cases hlm : l.length = m.length
  · obtain ⟨n, hn⟩ : ∃ n, l.length = n := ⟨_, rfl⟩
    have hn2 : m.length = n := by rw [← hlm]; exact hn
    rw [hn, hn2]
    rw [hn] at hl
    have HN := Lib.hid (And.intro hn hn2)
    have HA := Lib.hid hA
    have HB := Lib.hid hB
    obtain ⟨R, hR⟩ : ∃ R, decide (l = m) = R := ⟨_, rfl⟩
    have HR := Lib.hid hR
    rw [hR]
    clear hR hA hB hlm hm hn hn2
    go_enter Try.func36, Try.ntmps36
    go_wp2_with fail
    go_loopw [13] (fun y wr => ∃ k : Nat, k ≤ n ∧ y = .int .i64 (k : Int) ∧ Hid (Nw w wr ∧ ∀ j (h1 : j < l.length) (h2 : j < m.length), j < k → l[j] = m[j])) (fun y _ => n - (intOf y).toNat)
    case atStart => exact ⟨0, Nat.zero_le _, rfl, Lib.hid ⟨Nw.refl w, fun j _ _ hj => by omega⟩⟩
    case round =>
      obtain ⟨k, hk, rfl, HI⟩ := hrel
      by_cases hlt : k < n
      · have g1 : (k : Int) < (n : Int) := by omega
        have hkl : k < l.length := by rw [HN.out.1]; exact hlt
        have hkm : k < m.length := by rw [HN.out.2]; exact hlt
        obtain ⟨b, o, rfl, it⟩ := IntsAt.get (HA.out.nw HI.out.1) (k := k) hkl
        obtain ⟨b2, o2, rfl, iu⟩ := IntsAt.get (HB.out.nw HI.out.1) (k := k) hkm
        obtain ⟨x, hx⟩ : ∃ x : Int, l[k]'hkl = x := ⟨_, rfl⟩
        obtain ⟨y, hy⟩ : ∃ y : Int, m[k]'hkm = y := ⟨_, rfl⟩
        rw [hx] at it
        rw [hy] at iu
        have HXY := Lib.hid (And.intro hx hy)
        clear hx hy
        by_cases hxy : x = y
        · subst hxy
          have he : l[k] = m[k] := HXY.out.1.trans HXY.out.2.symm
          have HE := Lib.hid he
          clear he
          go_upto_region 6 with (fail)
          go_quiet (fail)
          go_wp2_with fail
          go_roundw
          case rel =>
            refine ⟨k + 1, hlt, by go_num, Lib.hid ⟨HI.out.1.step (Below.many (Nw.refl wr) _), fun j h1 h2 hj => ?_⟩⟩
            by_cases e : j = k
            · subst e; exact HE.out
            · exact HI.out.2 j h1 h2 (by omega)
          case measure => simp [intOf]; omega
        · have hRf : R = false := by
            rw [← HR.out]
            refine decide_eq_false fun e => hxy ?_
            rw [← HXY.out.1, ← HXY.out.2]
            subst e; rfl
          subst hRf
          go_upto_region 6 with (fail)
          go_quiet (fail)
          go_wp2_with fail
          go_ret
          exact ⟨rfl, HI.out.1.step (Below.many (Nw.refl wr) _)⟩
      · obtain rfl : k = n := by omega
        have g1 : ¬ (k : Int) < (k : Int) := by omega
        have hRt : R = true := by
          rw [← HR.out]
          refine decide_eq_true ?_
          apply List.ext_getElem (by rw [HN.out.1, HN.out.2])
          intro j h1 h2
          exact HI.out.2 j h1 h2 (by rw [← HN.out.1]; exact h1)
        subst hRt
        go_wp2_with fail
        go_ret
        exact ⟨rfl, HI.out.1⟩
  · have hne : ¬ (l.length : Int) = (m.length : Int) := by omega
    rw [decide_eq_false (fun e => hlm (by rw [e]))]
    clear hA hB
    go_enter Try.func36, Try.ntmps36
    go_wp2_with fail
    go_ret
    exact ⟨rfl, Nw.refl w⟩
end Go.Proofs.Ytnbcjjgilndlaaa
/- Messages: which are the same. Helper. -/
namespace Go.Proofs.Ytnbcjjgilndlaaa
open Go.RowKit
set_option linter.unusedVariables false
set_option linter.unusedSimpArgs false
set_option maxRecDepth 100000
set_option maxHeartbeats 6400000 in
theorem refRq_any (w : World) (a b : Rq) (A B : Option Addr) (c d : Nat) (hA : BytesAt w A a.md) (hB : BytesAt w B b.md) (hl : a.md.length ≤ 9223372036854775807) (hm : b.md.length ≤ 9223372036854775807) :
    Calls Try.prog 13 #[.agg (a.c A c).toArray, .agg (b.c B d).toArray] w fun r w' => r = .returned (.bool (decide (a = b))) ∧ Nw w w' := by
  obtain ⟨x0, x1, x2, x3, x4, x5, x6, x7, x8, x9, x10, x11, x12, x13, x14, x15, x16⟩ := a
  obtain ⟨y0, y1, y2, y3, y4, y5, y6, y7, y8, y9, y10, y11, y12, y13, y14, y15, y16⟩ := b
  simp only at hA hB hl hm
  simp only [Rq.c]
  obtain ⟨wb, hwb⟩ : ∃ wb, (w.alloc (.cells #[.int .i64 x0, .int .u32 x1, .int .i64 x2, .slice A x3.length c, .int .i64 x4, .int .i64 x5, .int .i64 x6, .int .i64 x7, .int .i64 x8, .int .i64 x9, .int .u32 x10, .int .i64 x11, .int .i64 x12, .int .i64 x13, .int .i64 x14, .int .i64 x15, .int .i64 x16] 33)).alloc (.cells #[.int .i64 y0, .int .u32 y1, .int .i64 y2, .slice B y3.length d, .int .i64 y4, .int .i64 y5, .int .i64 y6, .int .i64 y7, .int .i64 y8, .int .i64 y9, .int .u32 y10, .int .i64 y11, .int .i64 y12, .int .i64 y13, .int .i64 y14, .int .i64 y15, .int .i64 y16] 33) = wb := ⟨_, rfl⟩
  have hba : Blk wb w.heap.size 33 #[.int .i64 x0, .int .u32 x1, .int .i64 x2, .slice A x3.length c, .int .i64 x4, .int .i64 x5, .int .i64 x6, .int .i64 x7, .int .i64 x8, .int .i64 x9, .int .u32 x10, .int .i64 x11, .int .i64 x12, .int .i64 x13, .int .i64 x14, .int .i64 x15, .int .i64 x16] := by rw [← hwb]; exact (Blk.last w _ _ rfl).alloc _
  have hbb : Blk wb (w.heap.size + 1) 33 #[.int .i64 y0, .int .u32 y1, .int .i64 y2, .slice B y3.length d, .int .i64 y4, .int .i64 y5, .int .i64 y6, .int .i64 y7, .int .i64 y8, .int .i64 y9, .int .u32 y10, .int .i64 y11, .int .i64 y12, .int .i64 y13, .int .i64 y14, .int .i64 y15, .int .i64 y16] := by rw [← hwb]; exact Blk.last _ _ _ (by simp)
  have hn0 : Nw w wb := by rw [← hwb]; exact ((Nw.refl w).alloc _).alloc _
  have HWB := Lib.hid hwb
  have HN0 := Lib.hid hn0
  have hA1 := Rd.nw hA hn0
  have hB1 := Rd.nw hB hn0
  have u0 : wb.cell? ⟨w.heap.size, 0, none⟩ = some (.int .i64 x0) := (hba.cell 0).trans rfl
  have v0 : wb.cell? ⟨w.heap.size + 1, 0, none⟩ = some (.int .i64 y0) := (hbb.cell 0).trans rfl
  have u1 : wb.cell? ⟨w.heap.size, 1, none⟩ = some (.int .u32 x1) := (hba.cell 1).trans rfl
  have v1 : wb.cell? ⟨w.heap.size + 1, 1, none⟩ = some (.int .u32 y1) := (hbb.cell 1).trans rfl
  have u2 : wb.cell? ⟨w.heap.size, 2, none⟩ = some (.int .i64 x2) := (hba.cell 2).trans rfl
  have v2 : wb.cell? ⟨w.heap.size + 1, 2, none⟩ = some (.int .i64 y2) := (hbb.cell 2).trans rfl
  have u3 : wb.cell? ⟨w.heap.size, 3, none⟩ = some (.slice A x3.length c) := (hba.cell 3).trans rfl
  have v3 : wb.cell? ⟨w.heap.size + 1, 3, none⟩ = some (.slice B y3.length d) := (hbb.cell 3).trans rfl
  have u4 : wb.cell? ⟨w.heap.size, 4, none⟩ = some (.int .i64 x4) := (hba.cell 4).trans rfl
  have v4 : wb.cell? ⟨w.heap.size + 1, 4, none⟩ = some (.int .i64 y4) := (hbb.cell 4).trans rfl
  have u5 : wb.cell? ⟨w.heap.size, 5, none⟩ = some (.int .i64 x5) := (hba.cell 5).trans rfl
  have v5 : wb.cell? ⟨w.heap.size + 1, 5, none⟩ = some (.int .i64 y5) := (hbb.cell 5).trans rfl
  have u6 : wb.cell? ⟨w.heap.size, 6, none⟩ = some (.int .i64 x6) := (hba.cell 6).trans rfl
  have v6 : wb.cell? ⟨w.heap.size + 1, 6, none⟩ = some (.int .i64 y6) := (hbb.cell 6).trans rfl
  have u7 : wb.cell? ⟨w.heap.size, 7, none⟩ = some (.int .i64 x7) := (hba.cell 7).trans rfl
  have v7 : wb.cell? ⟨w.heap.size + 1, 7, none⟩ = some (.int .i64 y7) := (hbb.cell 7).trans rfl
  have u8 : wb.cell? ⟨w.heap.size, 8, none⟩ = some (.int .i64 x8) := (hba.cell 8).trans rfl
  have v8 : wb.cell? ⟨w.heap.size + 1, 8, none⟩ = some (.int .i64 y8) := (hbb.cell 8).trans rfl
  have u9 : wb.cell? ⟨w.heap.size, 9, none⟩ = some (.int .i64 x9) := (hba.cell 9).trans rfl
  have v9 : wb.cell? ⟨w.heap.size + 1, 9, none⟩ = some (.int .i64 y9) := (hbb.cell 9).trans rfl
  have u10 : wb.cell? ⟨w.heap.size, 10, none⟩ = some (.int .u32 x10) := (hba.cell 10).trans rfl
  have v10 : wb.cell? ⟨w.heap.size + 1, 10, none⟩ = some (.int .u32 y10) := (hbb.cell 10).trans rfl
  have u11 : wb.cell? ⟨w.heap.size, 11, none⟩ = some (.int .i64 x11) := (hba.cell 11).trans rfl
  have v11 : wb.cell? ⟨w.heap.size + 1, 11, none⟩ = some (.int .i64 y11) := (hbb.cell 11).trans rfl
  have u12 : wb.cell? ⟨w.heap.size, 12, none⟩ = some (.int .i64 x12) := (hba.cell 12).trans rfl
  have v12 : wb.cell? ⟨w.heap.size + 1, 12, none⟩ = some (.int .i64 y12) := (hbb.cell 12).trans rfl
  have u13 : wb.cell? ⟨w.heap.size, 13, none⟩ = some (.int .i64 x13) := (hba.cell 13).trans rfl
  have v13 : wb.cell? ⟨w.heap.size + 1, 13, none⟩ = some (.int .i64 y13) := (hbb.cell 13).trans rfl
  have u14 : wb.cell? ⟨w.heap.size, 14, none⟩ = some (.int .i64 x14) := (hba.cell 14).trans rfl
  have v14 : wb.cell? ⟨w.heap.size + 1, 14, none⟩ = some (.int .i64 y14) := (hbb.cell 14).trans rfl
  have u15 : wb.cell? ⟨w.heap.size, 15, none⟩ = some (.int .i64 x15) := (hba.cell 15).trans rfl
  have v15 : wb.cell? ⟨w.heap.size + 1, 15, none⟩ = some (.int .i64 y15) := (hbb.cell 15).trans rfl
  have u16 : wb.cell? ⟨w.heap.size, 16, none⟩ = some (.int .i64 x16) := (hba.cell 16).trans rfl
  have v16 : wb.cell? ⟨w.heap.size + 1, 16, none⟩ = some (.int .i64 y16) := (hbb.cell 16).trans rfl
  have s1 := BytesAt.str hA1 22 5 9 c Try.underlying22 Try.underlying5 Try.underlying9
  have s2 := BytesAt.str hB1 22 5 9 d Try.underlying22 Try.underlying5 Try.underlying9
  clear hba hbb hwb hn0 hA1 hB1 hA hB
  by_cases h : ¬ x0 = y0
  · rw [decide_eq_false (fun e => h (congrArg Rq.k e))]
    go_enter Try.func13, Try.ntmps13
    go_upto_region 1 with (fail)
    rw [HWB.out]
    go_wp2_with fail
    go_ret
    first | exact ⟨rfl, HN0.out⟩ | exact ⟨ret_bool (by simpa using h), HN0.out⟩
  replace h := Classical.not_not.1 h
  subst h
  by_cases h : ¬ x1 = y1
  · rw [decide_eq_false (fun e => h (congrArg Rq.id e))]
    go_enter Try.func13, Try.ntmps13
    go_upto_region 1 with (fail)
    rw [HWB.out]
    go_wp2_with fail
    go_ret
    first | exact ⟨rfl, HN0.out⟩ | exact ⟨ret_bool (by simpa using h), HN0.out⟩
  replace h := Classical.not_not.1 h
  subst h
  by_cases h : ¬ x2 = y2
  · rw [decide_eq_false (fun e => h (congrArg Rq.ver e))]
    go_enter Try.func13, Try.ntmps13
    go_upto_region 1 with (fail)
    rw [HWB.out]
    go_wp2_with fail
    go_ret
    first | exact ⟨rfl, HN0.out⟩ | exact ⟨ret_bool (by simpa using h), HN0.out⟩
  replace h := Classical.not_not.1 h
  subst h
  by_cases h : ¬ x3 = y3
  · rw [decide_eq_false (fun e => h (congrArg Rq.md e))]
    have hne : ¬ ((⟨x3.toArray⟩ : ByteArray) = ⟨y3.toArray⟩) := fun e => h (by have := congrArg ByteArray.data e; simpa using this)
    go_enter Try.func13, Try.ntmps13
    go_upto_region 1 with (fail)
    rw [HWB.out]
    go_wp2_with fail
    go_ret
    exact ⟨rfl, HN0.out⟩
  replace h := Classical.not_not.1 h
  subst h
  by_cases h : ¬ x4 = y4
  · rw [decide_eq_false (fun e => h (congrArg Rq.T e))]
    go_enter Try.func13, Try.ntmps13
    go_upto_region 1 with (fail)
    rw [HWB.out]
    go_wp2_with fail
    go_ret
    first | exact ⟨rfl, HN0.out⟩ | exact ⟨ret_bool (by simpa using h), HN0.out⟩
  replace h := Classical.not_not.1 h
  subst h
  by_cases h : ¬ x5 = y5
  · rw [decide_eq_false (fun e => h (congrArg Rq.O e))]
    go_enter Try.func13, Try.ntmps13
    go_upto_region 1 with (fail)
    rw [HWB.out]
    go_wp2_with fail
    go_ret
    first | exact ⟨rfl, HN0.out⟩ | exact ⟨ret_bool (by simpa using h), HN0.out⟩
  replace h := Classical.not_not.1 h
  subst h
  by_cases h : ¬ x6 = y6
  · rw [decide_eq_false (fun e => h (congrArg Rq.S e))]
    go_enter Try.func13, Try.ntmps13
    go_upto_region 1 with (fail)
    rw [HWB.out]
    go_wp2_with fail
    go_ret
    first | exact ⟨rfl, HN0.out⟩ | exact ⟨ret_bool (by simpa using h), HN0.out⟩
  replace h := Classical.not_not.1 h
  subst h
  by_cases h : ¬ x7 = y7
  · rw [decide_eq_false (fun e => h (congrArg Rq.tt e))]
    go_enter Try.func13, Try.ntmps13
    go_upto_region 1 with (fail)
    rw [HWB.out]
    go_wp2_with fail
    go_ret
    first | exact ⟨rfl, HN0.out⟩ | exact ⟨ret_bool (by simpa using h), HN0.out⟩
  replace h := Classical.not_not.1 h
  subst h
  by_cases h : ¬ x8 = y8
  · rw [decide_eq_false (fun e => h (congrArg Rq.kd e))]
    go_enter Try.func13, Try.ntmps13
    go_upto_region 1 with (fail)
    rw [HWB.out]
    go_wp2_with fail
    go_ret
    first | exact ⟨rfl, HN0.out⟩ | exact ⟨ret_bool (by simpa using h), HN0.out⟩
  replace h := Classical.not_not.1 h
  subst h
  by_cases h : ¬ x9 = y9
  · rw [decide_eq_false (fun e => h (congrArg Rq.da e))]
    go_enter Try.func13, Try.ntmps13
    go_upto_region 1 with (fail)
    rw [HWB.out]
    go_wp2_with fail
    go_ret
    first | exact ⟨rfl, HN0.out⟩ | exact ⟨ret_bool (by simpa using h), HN0.out⟩
  replace h := Classical.not_not.1 h
  subst h
  by_cases h : ¬ x10 = y10
  · rw [decide_eq_false (fun e => h (congrArg Rq.nu e))]
    go_enter Try.func13, Try.ntmps13
    go_upto_region 1 with (fail)
    rw [HWB.out]
    go_wp2_with fail
    go_ret
    first | exact ⟨rfl, HN0.out⟩ | exact ⟨ret_bool (by simpa using h), HN0.out⟩
  replace h := Classical.not_not.1 h
  subst h
  by_cases h : ¬ x11 = y11
  · rw [decide_eq_false (fun e => h (congrArg Rq.bp e))]
    go_enter Try.func13, Try.ntmps13
    go_upto_region 1 with (fail)
    rw [HWB.out]
    go_wp2_with fail
    go_ret
    first | exact ⟨rfl, HN0.out⟩ | exact ⟨ret_bool (by simpa using h), HN0.out⟩
  replace h := Classical.not_not.1 h
  subst h
  by_cases h : ¬ x12 = y12
  · rw [decide_eq_false (fun e => h (congrArg Rq.bk e))]
    go_enter Try.func13, Try.ntmps13
    go_upto_region 1 with (fail)
    rw [HWB.out]
    go_wp2_with fail
    go_ret
    first | exact ⟨rfl, HN0.out⟩ | exact ⟨ret_bool (by simpa using h), HN0.out⟩
  replace h := Classical.not_not.1 h
  subst h
  by_cases h : ¬ x13 = y13
  · rw [decide_eq_false (fun e => h (congrArg Rq.bt e))]
    go_enter Try.func13, Try.ntmps13
    go_upto_region 1 with (fail)
    rw [HWB.out]
    go_wp2_with fail
    go_ret
    first | exact ⟨rfl, HN0.out⟩ | exact ⟨ret_bool (by simpa using h), HN0.out⟩
  replace h := Classical.not_not.1 h
  subst h
  by_cases h : ¬ x14 = y14
  · rw [decide_eq_false (fun e => h (congrArg Rq.pr e))]
    go_enter Try.func13, Try.ntmps13
    go_upto_region 1 with (fail)
    rw [HWB.out]
    go_wp2_with fail
    go_ret
    first | exact ⟨rfl, HN0.out⟩ | exact ⟨ret_bool (by simpa using h), HN0.out⟩
  replace h := Classical.not_not.1 h
  subst h
  by_cases h : ¬ x15 = y15
  · rw [decide_eq_false (fun e => h (congrArg Rq.nm e))]
    go_enter Try.func13, Try.ntmps13
    go_upto_region 1 with (fail)
    rw [HWB.out]
    go_wp2_with fail
    go_ret
    first | exact ⟨rfl, HN0.out⟩ | exact ⟨ret_bool (by simpa using h), HN0.out⟩
  replace h := Classical.not_not.1 h
  subst h
  by_cases h : ¬ x16 = y16
  · rw [decide_eq_false (fun e => h (congrArg Rq.dn e))]
    go_enter Try.func13, Try.ntmps13
    go_upto_region 1 with (fail)
    rw [HWB.out]
    go_wp2_with fail
    go_ret
    first | exact ⟨rfl, HN0.out⟩ | exact ⟨ret_bool (by simpa using h), HN0.out⟩
  replace h := Classical.not_not.1 h
  subst h
  rw [decide_eq_true rfl]
  go_enter Try.func13, Try.ntmps13
  go_upto_region 1 with (fail)
  rw [HWB.out]
  go_wp2_with fail
  go_ret
  first | exact ⟨rfl, HN0.out⟩ | exact ⟨ret_bool (by simpa using h), HN0.out⟩
end Go.Proofs.Ytnbcjjgilndlaaa
/- Messages: which are the same. Helper. -/
namespace Go.Proofs.Ytnbcjjgilndlaaa
open Go.RowKit
set_option linter.unusedVariables false
set_option linter.unusedSimpArgs false
set_option maxRecDepth 100000
set_option maxHeartbeats 6400000 in
theorem refRs_any (w : World) (a b : Rs) (A B : Option Addr) (c d : Nat) (hA : IntsAt w A a.vs) (hB : IntsAt w B b.vs) (hl : a.vs.length ≤ 9223372036854775807) (hm : b.vs.length ≤ 9223372036854775807) :
    Calls Try.prog 14 #[.agg (a.c A c).toArray, .agg (b.c B d).toArray] w fun r w' => r = .returned (.bool (decide (a = b))) ∧ Nw w w' := by
  obtain ⟨x0, x1, x2, x3, x4, x5, x6, x7, x8, x9, x10, x11, x12, x13, x14, x15, x16, x17⟩ := a
  obtain ⟨y0, y1, y2, y3, y4, y5, y6, y7, y8, y9, y10, y11, y12, y13, y14, y15, y16, y17⟩ := b
  simp only at hA hB hl hm
  simp only [Rs.c]
  obtain ⟨wb, hwb⟩ : ∃ wb, (w.alloc (.cells #[.int .i64 x0, .int .u32 x1, .int .i64 x2, .int .i64 x3, .slice A x4.length c, .int .i64 x5, .int .i64 x6, .int .i64 x7, .int .i64 x8, .int .i64 x9, .int .i64 x10, .int .u32 x11, .int .i64 x12, .int .i64 x13, .int .i64 x14, .int .i64 x15, .int .i64 x16, .int .i64 x17] 42)).alloc (.cells #[.int .i64 y0, .int .u32 y1, .int .i64 y2, .int .i64 y3, .slice B y4.length d, .int .i64 y5, .int .i64 y6, .int .i64 y7, .int .i64 y8, .int .i64 y9, .int .i64 y10, .int .u32 y11, .int .i64 y12, .int .i64 y13, .int .i64 y14, .int .i64 y15, .int .i64 y16, .int .i64 y17] 42) = wb := ⟨_, rfl⟩
  have hba : Blk wb w.heap.size 42 #[.int .i64 x0, .int .u32 x1, .int .i64 x2, .int .i64 x3, .slice A x4.length c, .int .i64 x5, .int .i64 x6, .int .i64 x7, .int .i64 x8, .int .i64 x9, .int .i64 x10, .int .u32 x11, .int .i64 x12, .int .i64 x13, .int .i64 x14, .int .i64 x15, .int .i64 x16, .int .i64 x17] := by rw [← hwb]; exact (Blk.last w _ _ rfl).alloc _
  have hbb : Blk wb (w.heap.size + 1) 42 #[.int .i64 y0, .int .u32 y1, .int .i64 y2, .int .i64 y3, .slice B y4.length d, .int .i64 y5, .int .i64 y6, .int .i64 y7, .int .i64 y8, .int .i64 y9, .int .i64 y10, .int .u32 y11, .int .i64 y12, .int .i64 y13, .int .i64 y14, .int .i64 y15, .int .i64 y16, .int .i64 y17] := by rw [← hwb]; exact Blk.last _ _ _ (by simp)
  have hn0 : Nw w wb := by rw [← hwb]; exact ((Nw.refl w).alloc _).alloc _
  have HWB := Lib.hid hwb
  have HN0 := Lib.hid hn0
  have hA1 := Rd.nw hA hn0
  have hB1 := Rd.nw hB hn0
  have u0 : wb.cell? ⟨w.heap.size, 0, none⟩ = some (.int .i64 x0) := (hba.cell 0).trans rfl
  have v0 : wb.cell? ⟨w.heap.size + 1, 0, none⟩ = some (.int .i64 y0) := (hbb.cell 0).trans rfl
  have u1 : wb.cell? ⟨w.heap.size, 1, none⟩ = some (.int .u32 x1) := (hba.cell 1).trans rfl
  have v1 : wb.cell? ⟨w.heap.size + 1, 1, none⟩ = some (.int .u32 y1) := (hbb.cell 1).trans rfl
  have u2 : wb.cell? ⟨w.heap.size, 2, none⟩ = some (.int .i64 x2) := (hba.cell 2).trans rfl
  have v2 : wb.cell? ⟨w.heap.size + 1, 2, none⟩ = some (.int .i64 y2) := (hbb.cell 2).trans rfl
  have u3 : wb.cell? ⟨w.heap.size, 3, none⟩ = some (.int .i64 x3) := (hba.cell 3).trans rfl
  have v3 : wb.cell? ⟨w.heap.size + 1, 3, none⟩ = some (.int .i64 y3) := (hbb.cell 3).trans rfl
  have u4 : wb.cell? ⟨w.heap.size, 4, none⟩ = some (.slice A x4.length c) := (hba.cell 4).trans rfl
  have v4 : wb.cell? ⟨w.heap.size + 1, 4, none⟩ = some (.slice B y4.length d) := (hbb.cell 4).trans rfl
  have u5 : wb.cell? ⟨w.heap.size, 5, none⟩ = some (.int .i64 x5) := (hba.cell 5).trans rfl
  have v5 : wb.cell? ⟨w.heap.size + 1, 5, none⟩ = some (.int .i64 y5) := (hbb.cell 5).trans rfl
  have u6 : wb.cell? ⟨w.heap.size, 6, none⟩ = some (.int .i64 x6) := (hba.cell 6).trans rfl
  have v6 : wb.cell? ⟨w.heap.size + 1, 6, none⟩ = some (.int .i64 y6) := (hbb.cell 6).trans rfl
  have u7 : wb.cell? ⟨w.heap.size, 7, none⟩ = some (.int .i64 x7) := (hba.cell 7).trans rfl
  have v7 : wb.cell? ⟨w.heap.size + 1, 7, none⟩ = some (.int .i64 y7) := (hbb.cell 7).trans rfl
  have u8 : wb.cell? ⟨w.heap.size, 8, none⟩ = some (.int .i64 x8) := (hba.cell 8).trans rfl
  have v8 : wb.cell? ⟨w.heap.size + 1, 8, none⟩ = some (.int .i64 y8) := (hbb.cell 8).trans rfl
  have u9 : wb.cell? ⟨w.heap.size, 9, none⟩ = some (.int .i64 x9) := (hba.cell 9).trans rfl
  have v9 : wb.cell? ⟨w.heap.size + 1, 9, none⟩ = some (.int .i64 y9) := (hbb.cell 9).trans rfl
  have u10 : wb.cell? ⟨w.heap.size, 10, none⟩ = some (.int .i64 x10) := (hba.cell 10).trans rfl
  have v10 : wb.cell? ⟨w.heap.size + 1, 10, none⟩ = some (.int .i64 y10) := (hbb.cell 10).trans rfl
  have u11 : wb.cell? ⟨w.heap.size, 11, none⟩ = some (.int .u32 x11) := (hba.cell 11).trans rfl
  have v11 : wb.cell? ⟨w.heap.size + 1, 11, none⟩ = some (.int .u32 y11) := (hbb.cell 11).trans rfl
  have u12 : wb.cell? ⟨w.heap.size, 12, none⟩ = some (.int .i64 x12) := (hba.cell 12).trans rfl
  have v12 : wb.cell? ⟨w.heap.size + 1, 12, none⟩ = some (.int .i64 y12) := (hbb.cell 12).trans rfl
  have u13 : wb.cell? ⟨w.heap.size, 13, none⟩ = some (.int .i64 x13) := (hba.cell 13).trans rfl
  have v13 : wb.cell? ⟨w.heap.size + 1, 13, none⟩ = some (.int .i64 y13) := (hbb.cell 13).trans rfl
  have u14 : wb.cell? ⟨w.heap.size, 14, none⟩ = some (.int .i64 x14) := (hba.cell 14).trans rfl
  have v14 : wb.cell? ⟨w.heap.size + 1, 14, none⟩ = some (.int .i64 y14) := (hbb.cell 14).trans rfl
  have u15 : wb.cell? ⟨w.heap.size, 15, none⟩ = some (.int .i64 x15) := (hba.cell 15).trans rfl
  have v15 : wb.cell? ⟨w.heap.size + 1, 15, none⟩ = some (.int .i64 y15) := (hbb.cell 15).trans rfl
  have u16 : wb.cell? ⟨w.heap.size, 16, none⟩ = some (.int .i64 x16) := (hba.cell 16).trans rfl
  have v16 : wb.cell? ⟨w.heap.size + 1, 16, none⟩ = some (.int .i64 y16) := (hbb.cell 16).trans rfl
  have u17 : wb.cell? ⟨w.heap.size, 17, none⟩ = some (.int .i64 x17) := (hba.cell 17).trans rfl
  have v17 : wb.cell? ⟨w.heap.size + 1, 17, none⟩ = some (.int .i64 y17) := (hbb.cell 17).trans rfl
  have HA1 := Lib.hid hA1
  have HB1 := Lib.hid hB1
  clear hba hbb hwb hn0 hA1 hB1 hA hB
  by_cases h : ¬ x0 = y0
  · rw [decide_eq_false (fun e => h (congrArg Rs.k e))]
    go_enter Try.func14, Try.ntmps14
    go_upto_region 1 with (fail)
    rw [HWB.out]
    go_wp2_with fail
    go_ret
    first | exact ⟨rfl, HN0.out⟩ | exact ⟨ret_bool (by simpa using h), HN0.out⟩
  replace h := Classical.not_not.1 h
  subst h
  by_cases h : ¬ x1 = y1
  · rw [decide_eq_false (fun e => h (congrArg Rs.id e))]
    go_enter Try.func14, Try.ntmps14
    go_upto_region 1 with (fail)
    rw [HWB.out]
    go_wp2_with fail
    go_ret
    first | exact ⟨rfl, HN0.out⟩ | exact ⟨ret_bool (by simpa using h), HN0.out⟩
  replace h := Classical.not_not.1 h
  subst h
  by_cases h : ¬ x2 = y2
  · rw [decide_eq_false (fun e => h (congrArg Rs.er e))]
    go_enter Try.func14, Try.ntmps14
    go_upto_region 1 with (fail)
    rw [HWB.out]
    go_wp2_with fail
    go_ret
    first | exact ⟨rfl, HN0.out⟩ | exact ⟨ret_bool (by simpa using h), HN0.out⟩
  replace h := Classical.not_not.1 h
  subst h
  by_cases h : ¬ x3 = y3
  · rw [decide_eq_false (fun e => h (congrArg Rs.fl e))]
    go_enter Try.func14, Try.ntmps14
    go_upto_region 1 with (fail)
    rw [HWB.out]
    go_wp2_with fail
    go_ret
    first | exact ⟨rfl, HN0.out⟩ | exact ⟨ret_bool (by simpa using h), HN0.out⟩
  replace h := Classical.not_not.1 h
  subst h
  by_cases hlen : ¬ x4.length = y4.length
  · rw [decide_eq_false (fun e => hlen (congrArg List.length (congrArg Rs.vs e)))]
    have hne : ¬ ((x4.length : Int) = (y4.length : Int)) := by omega
    go_enter Try.func14, Try.ntmps14
    go_upto_region 1 with (fail)
    rw [HWB.out]
    go_wp2_with fail
    go_ret
    first | exact ⟨rfl, HN0.out⟩ | exact ⟨ret_bool (by simpa using h), HN0.out⟩
  replace hlen := Classical.not_not.1 hlen
  obtain ⟨n, hn⟩ : ∃ n, x4.length = n := ⟨_, rfl⟩
  have hn2 : y4.length = n := by rw [← hlen]; exact hn
  rw [hn] at u4 HWB hl ⊢
  rw [hn2] at v4 HWB ⊢
  have HNN := Lib.hid (And.intro hn hn2)
  obtain ⟨R, hR⟩ : ∃ R, decide ((⟨x0, x1, x2, x3, x4, x5, x6, x7, x8, x9, x10, x11, x12, x13, x14, x15, x16, x17⟩ : Rs) = ⟨x0, x1, x2, x3, y4, y5, y6, y7, y8, y9, y10, y11, y12, y13, y14, y15, y16, y17⟩) = R := ⟨_, rfl⟩
  rw [hR]
  have HR := Lib.hid hR
  have U0 := Lib.hid u0
  have V0 := Lib.hid v0
  have U1 := Lib.hid u1
  have V1 := Lib.hid v1
  have U2 := Lib.hid u2
  have V2 := Lib.hid v2
  have U3 := Lib.hid u3
  have V3 := Lib.hid v3
  have U4 := Lib.hid u4
  have V4 := Lib.hid v4
  have U5 := Lib.hid u5
  have V5 := Lib.hid v5
  have U6 := Lib.hid u6
  have V6 := Lib.hid v6
  have U7 := Lib.hid u7
  have V7 := Lib.hid v7
  have U8 := Lib.hid u8
  have V8 := Lib.hid v8
  have U9 := Lib.hid u9
  have V9 := Lib.hid v9
  have U10 := Lib.hid u10
  have V10 := Lib.hid v10
  have U11 := Lib.hid u11
  have V11 := Lib.hid v11
  have U12 := Lib.hid u12
  have V12 := Lib.hid v12
  have U13 := Lib.hid u13
  have V13 := Lib.hid v13
  have U14 := Lib.hid u14
  have V14 := Lib.hid v14
  have U15 := Lib.hid u15
  have V15 := Lib.hid v15
  have U16 := Lib.hid u16
  have V16 := Lib.hid v16
  have U17 := Lib.hid u17
  have V17 := Lib.hid v17
  clear hR hn hn2 hlen hm
  go_enter Try.func14, Try.ntmps14
  go_upto_region 1 with (fail)
  rw [HWB.out]
  go_wp2_with fail
  clear u0 v0 u1 v1 u2 v2 u3 v3 u4 v4 u5 v5 u6 v6 u7 v7 u8 v8 u9 v9 u10 v10 u11 v11 u12 v12 u13 v13 u14 v14 u15 v15 u16 v16 u17 v17
  go_loopw [5] (fun y wr => ∃ k : Nat, k ≤ n ∧ y = .int .i64 (k : Int) ∧ Hid (Nw wb wr ∧ ∀ j (h1 : j < x4.length) (h2 : j < y4.length), j < k → x4[j] = y4[j])) (fun y _ => n - (intOf y).toNat)
  case atStart => exact ⟨0, Nat.zero_le _, rfl, Lib.hid ⟨Nw.refl wb, fun j _ _ hj => by omega⟩⟩
  case round =>
    obtain ⟨k, hk, rfl, HI⟩ := hrel
    have u4 := HI.out.1.cell U4.out
    have v4 := HI.out.1.cell V4.out
    by_cases hlt : k < n
    · have g1 : (k : Int) < (n : Int) := by omega
      have hkl : k < x4.length := by rw [HNN.out.1]; exact hlt
      have hkm : k < y4.length := by rw [HNN.out.2]; exact hlt
      obtain ⟨b, o, rfl, it⟩ := IntsAt.get (HA1.out.nw HI.out.1) (k := k) hkl
      obtain ⟨b2, o2, rfl, iu⟩ := IntsAt.get (HB1.out.nw HI.out.1) (k := k) hkm
      obtain ⟨x, hx⟩ : ∃ x : Int, x4[k]'hkl = x := ⟨_, rfl⟩
      obtain ⟨y, hy⟩ : ∃ y : Int, y4[k]'hkm = y := ⟨_, rfl⟩
      rw [hx] at it
      rw [hy] at iu
      have HXY := Lib.hid (And.intro hx hy)
      clear hx hy
      by_cases hxy : x = y
      · subst hxy
        go_upto_region 6 with (fail)
        go_quiet (fail)
        go_wp2_with fail
        go_roundw
        case rel =>
          refine ⟨k + 1, hlt, by go_num, Lib.hid ⟨HI.out.1.step (Below.many (Nw.refl wr) _), fun j h1 h2 hj => ?_⟩⟩
          by_cases e : j = k
          · subst e; exact HXY.out.1.trans HXY.out.2.symm
          · exact HI.out.2 j h1 h2 (by omega)
        case measure => simp [intOf]; omega
      · have hRf : R = false := by
          rw [← HR.out]
          refine decide_eq_false fun e => hxy ?_
          have e4 : x4 = y4 := congrArg Rs.vs e
          rw [← HXY.out.1, ← HXY.out.2]
          subst e4; rfl
        subst hRf
        go_upto_region 6 with (fail)
        go_quiet (fail)
        go_wp2_with fail
        go_ret
        exact ⟨rfl, HN0.out.trans ((HI.out.1.step (Below.many (Nw.refl wr) _)).mono HN0.out.size)⟩
    · obtain rfl : k = n := by omega
      have g1 : ¬ (k : Int) < (k : Int) := by omega
      have he4 : x4 = y4 := by
        apply List.ext_getElem (by rw [HNN.out.1, HNN.out.2])
        intro j h1 h2
        exact HI.out.2 j h1 h2 (by rw [← HNN.out.1]; exact h1)
      subst he4
      have HN9 := Lib.hid (HN0.out.trans (HI.out.1.mono HN0.out.size))
      have u5 := HI.out.1.cell U5.out
      have v5 := HI.out.1.cell V5.out
      have u6 := HI.out.1.cell U6.out
      have v6 := HI.out.1.cell V6.out
      have u7 := HI.out.1.cell U7.out
      have v7 := HI.out.1.cell V7.out
      have u8 := HI.out.1.cell U8.out
      have v8 := HI.out.1.cell V8.out
      have u9 := HI.out.1.cell U9.out
      have v9 := HI.out.1.cell V9.out
      have u10 := HI.out.1.cell U10.out
      have v10 := HI.out.1.cell V10.out
      have u11 := HI.out.1.cell U11.out
      have v11 := HI.out.1.cell V11.out
      have u12 := HI.out.1.cell U12.out
      have v12 := HI.out.1.cell V12.out
      have u13 := HI.out.1.cell U13.out
      have v13 := HI.out.1.cell V13.out
      have u14 := HI.out.1.cell U14.out
      have v14 := HI.out.1.cell V14.out
      have u15 := HI.out.1.cell U15.out
      have v15 := HI.out.1.cell V15.out
      have u16 := HI.out.1.cell U16.out
      have v16 := HI.out.1.cell V16.out
      have u17 := HI.out.1.cell U17.out
      have v17 := HI.out.1.cell V17.out
      by_cases h : ¬ x5 = y5
      · have hRf : R = false := by
          rw [← HR.out]
          exact decide_eq_false (fun e => h (congrArg Rs.rT e))
        subst hRf
        go_wp2_with fail
        go_ret
        first | exact ⟨rfl, HN9.out⟩ | exact ⟨ret_bool (by simpa using h), HN9.out⟩
      replace h := Classical.not_not.1 h
      subst h
      by_cases h : ¬ x6 = y6
      · have hRf : R = false := by
          rw [← HR.out]
          exact decide_eq_false (fun e => h (congrArg Rs.rO e))
        subst hRf
        go_wp2_with fail
        go_ret
        first | exact ⟨rfl, HN9.out⟩ | exact ⟨ret_bool (by simpa using h), HN9.out⟩
      replace h := Classical.not_not.1 h
      subst h
      by_cases h : ¬ x7 = y7
      · have hRf : R = false := by
          rw [← HR.out]
          exact decide_eq_false (fun e => h (congrArg Rs.rS e))
        subst hRf
        go_wp2_with fail
        go_ret
        first | exact ⟨rfl, HN9.out⟩ | exact ⟨ret_bool (by simpa using h), HN9.out⟩
      replace h := Classical.not_not.1 h
      subst h
      by_cases h : ¬ x8 = y8
      · have hRf : R = false := by
          rw [← HR.out]
          exact decide_eq_false (fun e => h (congrArg Rs.rp e))
        subst hRf
        go_wp2_with fail
        go_ret
        first | exact ⟨rfl, HN9.out⟩ | exact ⟨ret_bool (by simpa using h), HN9.out⟩
      replace h := Classical.not_not.1 h
      subst h
      by_cases h : ¬ x9 = y9
      · have hRf : R = false := by
          rw [← HR.out]
          exact decide_eq_false (fun e => h (congrArg Rs.rn e))
        subst hRf
        go_wp2_with fail
        go_ret
        first | exact ⟨rfl, HN9.out⟩ | exact ⟨ret_bool (by simpa using h), HN9.out⟩
      replace h := Classical.not_not.1 h
      subst h
      by_cases h : ¬ x10 = y10
      · have hRf : R = false := by
          rw [← HR.out]
          exact decide_eq_false (fun e => h (congrArg Rs.rv e))
        subst hRf
        go_wp2_with fail
        go_ret
        first | exact ⟨rfl, HN9.out⟩ | exact ⟨ret_bool (by simpa using h), HN9.out⟩
      replace h := Classical.not_not.1 h
      subst h
      by_cases h : ¬ x11 = y11
      · have hRf : R = false := by
          rw [← HR.out]
          exact decide_eq_false (fun e => h (congrArg Rs.nu e))
        subst hRf
        go_wp2_with fail
        go_ret
        first | exact ⟨rfl, HN9.out⟩ | exact ⟨ret_bool (by simpa using h), HN9.out⟩
      replace h := Classical.not_not.1 h
      subst h
      by_cases h : ¬ x12 = y12
      · have hRf : R = false := by
          rw [← HR.out]
          exact decide_eq_false (fun e => h (congrArg Rs.T e))
        subst hRf
        go_wp2_with fail
        go_ret
        first | exact ⟨rfl, HN9.out⟩ | exact ⟨ret_bool (by simpa using h), HN9.out⟩
      replace h := Classical.not_not.1 h
      subst h
      by_cases h : ¬ x13 = y13
      · have hRf : R = false := by
          rw [← HR.out]
          exact decide_eq_false (fun e => h (congrArg Rs.O e))
        subst hRf
        go_wp2_with fail
        go_ret
        first | exact ⟨rfl, HN9.out⟩ | exact ⟨ret_bool (by simpa using h), HN9.out⟩
      replace h := Classical.not_not.1 h
      subst h
      by_cases h : ¬ x14 = y14
      · have hRf : R = false := by
          rw [← HR.out]
          exact decide_eq_false (fun e => h (congrArg Rs.S e))
        subst hRf
        go_wp2_with fail
        go_ret
        first | exact ⟨rfl, HN9.out⟩ | exact ⟨ret_bool (by simpa using h), HN9.out⟩
      replace h := Classical.not_not.1 h
      subst h
      by_cases h : ¬ x15 = y15
      · have hRf : R = false := by
          rw [← HR.out]
          exact decide_eq_false (fun e => h (congrArg Rs.tt e))
        subst hRf
        go_wp2_with fail
        go_ret
        first | exact ⟨rfl, HN9.out⟩ | exact ⟨ret_bool (by simpa using h), HN9.out⟩
      replace h := Classical.not_not.1 h
      subst h
      by_cases h : ¬ x16 = y16
      · have hRf : R = false := by
          rw [← HR.out]
          exact decide_eq_false (fun e => h (congrArg Rs.kd e))
        subst hRf
        go_wp2_with fail
        go_ret
        first | exact ⟨rfl, HN9.out⟩ | exact ⟨ret_bool (by simpa using h), HN9.out⟩
      replace h := Classical.not_not.1 h
      subst h
      by_cases h : ¬ x17 = y17
      · have hRf : R = false := by
          rw [← HR.out]
          exact decide_eq_false (fun e => h (congrArg Rs.da e))
        subst hRf
        go_wp2_with fail
        go_ret
        first | exact ⟨rfl, HN9.out⟩ | exact ⟨ret_bool (by simpa using h), HN9.out⟩
      replace h := Classical.not_not.1 h
      subst h
      have hRt : R = true := by rw [← HR.out]; exact decide_eq_true rfl
      subst hRt
      go_wp2_with fail
      go_ret
      exact ⟨rfl, HN9.out⟩
end Go.Proofs.Ytnbcjjgilndlaaa
