/- Frames: what the document tells of a stream. Helper. -/
import Derived.Test.YtalcafaibmbgjaaDoorFrmEnc
import Derived.Test.YtalcafaibmbgjaaDoorRegF
import Derived.Deep.QuietTactic
import Derived.OwnWalk
namespace Go.Proofs.YtalcafaibmbgjaaDoor
open Go.RowKit
set_option linter.unusedVariables false
set_option linter.unusedSimpArgs false
set_option maxRecDepth 100000
set_option maxHeartbeats 3200000
/-- What a stream tells from a place on: where payloads lie, and how long they are; what is wrong; where. -/
def toldF (s : List UInt8) : Nat → Nat → List (Nat × Nat) × Int × Nat
  | 0, at_ => ([], 0, at_)
  | f + 1, at_ =>
    if s.length < at_ + 2 then ([], 0, at_)
    else if 256 * (s.getD at_ 0).toNat + (s.getD (at_ + 1) 0).toNat < 1 ∨ 4096 < 256 * (s.getD at_ 0).toNat + (s.getD (at_ + 1) 0).toNat then ([], 10, at_)
    else if s.length < at_ + 6 + (256 * (s.getD at_ 0).toNat + (s.getD (at_ + 1) 0).toNat) then ([], 0, at_)
    else if frameB ((s.drop (at_ + 6)).take (256 * (s.getD at_ 0).toNat + (s.getD (at_ + 1) 0).toNat)) ≠ (s.drop at_).take (6 + (256 * (s.getD at_ 0).toNat + (s.getD (at_ + 1) 0).toNat)) then ([], 11, at_)
    else ((at_ + 6, 256 * (s.getD at_ 0).toNat + (s.getD (at_ + 1) 0).toNat) :: (toldF s f (at_ + 6 + (256 * (s.getD at_ 0).toNat + (s.getD (at_ + 1) 0).toNat))).1, (toldF s f (at_ + 6 + (256 * (s.getD at_ 0).toNat + (s.getD (at_ + 1) 0).toNat))).2)
def told (s : List UInt8) : List (Nat × Nat) × Int × Nat := toldF s s.length 0
/-- The slices that payloads are told as. -/
def toldV (b off c : Nat) (l : List (Nat × Nat)) : List Value := l.map fun p => .slice (some ⟨b, off + p.1, none⟩) p.2 (c - p.1)
theorem infoSl : (Tryd.prog.info? 22).map (fun i => (i.zero, i.size, i.bytes)) = some (some (.slice none 0 0), 1, 24) := by kernel_rfl
/-- What was told so far. -/
structure ToldIn (w wr : World) (b off c : Nat) (s : List UInt8) (f at_ : Nat) (done : List (Nat × Nat)) (A' : Option Addr) (c' : Nat) (blk : Option Nat) : Prop where
  o : Own wr 22 1 (.slice A' done.length c') done.length (toldV b off c done) blk
  g : ∀ g, blk = some g → w.heap.size ≤ g
  n : Nw w wr
  t : told s = (done ++ (toldF s f at_).1, (toldF s f at_).2)
  f : s.length ≤ at_ + f
  a : at_ ≤ s.length
  k : 7 * done.length ≤ at_
theorem toldF_stop (s : List UInt8) (f at_ : Nat) (h : s.length < at_ + 2) : toldF s f at_ = ([], 0, at_) := by
  cases f with
  | zero => rfl
  | succ f => simp only [toldF, if_pos h]
theorem byte_at {w : World} {b off : Nat} {s : List UInt8} (h : BytesAt w (some ⟨b, off, none⟩) s) (k : Nat) (hk : k < s.length) : w.cell? ⟨b, off + k, none⟩ = some (.int .u8 ((s.getD k 0).toNat : Int)) := by
  obtain ⟨b', off', e, _, hc⟩ := h.get (k := k) hk
  injection e with e
  injection e with e1 e2
  subst e1 e2
  rw [hc]; simp [List.getD_eq_getElem?_getD, hk]
theorem bytes_sub {w : World} {b off : Nat} {s : List UInt8} (h : BytesAt w (some ⟨b, off, none⟩) s) (k m : Nat) (hk : k ≤ s.length) : BytesAt w (some ⟨b, off + k, none⟩) ((s.drop k).take m) := by
  have h1 := h.cut (s.length + 1) (k := k) hk (by omega)
  rw [if_neg (by omega)] at h1
  simp only [Option.map, add_plain] at h1
  exact h1.take m
theorem rd_last1 (w : World) (t : TypeId) (v : Value) : Rd (w.alloc (.cells #[v] t)) (some ⟨w.heap.size, 0, none⟩) [v] :=
  .inr ⟨w.heap.size, 0, rfl, fun j u hu => by rw [cell_of_row _ _ _ _ t (0, 0) (heap_alloc_last w _)]; simpa using hu⟩
/-- New blocks; what was told lies in one. -/
def ToldNw (w w' : World) (A' : Option Addr) (l : List (Nat × Nat)) : Prop := Nw w w' ∧ (l = [] ∨ ∃ g o, A' = some ⟨g, o, none⟩ ∧ w.heap.size ≤ g)
theorem ToldNw.of {w wr : World} {b off c : Nat} {done : List (Nat × Nat)} {A' : Option Addr} {c' : Nat} {blk : Option Nat} (n : Nw w wr) (o : Own wr 22 1 (.slice A' done.length c') done.length (toldV b off c done) blk) (g : ∀ g, blk = some g → w.heap.size ≤ g) : ToldNw w wr A' done := by
  refine ⟨n, ?_⟩
  obtain ⟨hl, A2, c2, e, hn, _, h | ⟨g', off', cur, rfl, rfl, _, _, _⟩⟩ := o
  · injection e with e1 _ e3
    subst e1 e3
    exact .inl (List.eq_nil_of_length_eq_zero (by omega))
  · injection e with e1 _ e3
    subst e1 e3
    exact .inr ⟨g', off', rfl, g g' rfl⟩
theorem Told_own (w : World) (b off n c : Nat) (s : List UInt8) (hb : BytesAt w (some ⟨b, off, none⟩) s) (hn : s.length = n) (hc : n ≤ c) (hm : n ≤ 1000000) :
    Calls Tryd.prog 11 #[.slice (some ⟨b, off, none⟩) n c] w fun e w' => ∃ A' c', e = .returned (.tuple #[.slice A' (told s).1.length c', .int .i64 (told s).2.1, .int .i64 (told s).2.2]) ∧ Rd w' A' (toldV b off c (told s).1) ∧ ToldNw w w' A' (told s).1 := by
  obtain ⟨D, hD⟩ : ∃ D, told s = D := ⟨_, rfl⟩
  rw [hD]
  have HD := Lib.hid hD
  have HB := Lib.hid hb
  have HN := Lib.hid (And.intro hn (And.intro hc hm))
  obtain ⟨i0, hi0, hz0, hz1, hz2⟩ := info_parts infoSl
  have HL1 := Lib.hid hi0
  have HL2 := Lib.hid hz0
  have HL3 := Lib.hid hz1
  have HL4 := Lib.hid hz2
  clear hb hn hc hm hi0 hz0 hz1 hz2 hD
  go_enter Tryd.func11, Tryd.ntmps11
  go_wp2_with fail
  go_loopw [5, 6] (fun x y wr => ∃ (f at_ : Nat) (done : List (Nat × Nat)) (A' : Option Addr) (c' : Nat) (blk : Option Nat), x = .slice A' done.length c' ∧ y = .int .i64 (at_ : Int) ∧ Hid (ToldIn w wr b off c s f at_ done A' c' blk)) (fun _ y _ => (n + 1 - (intOf y).toNat))
  case atStart => exact ⟨s.length, 0, [], none, 0, none, rfl, rfl, Lib.hid ⟨Own.nil _ _ _, (fun g hg => by cases hg), Nw.refl w, by simp [told], by omega, by omega, by simp⟩⟩
  case round =>
    obtain ⟨f, at_, done, A', c', blk, rfl, rfl, HI⟩ := hrel
    have hat : at_ ≤ 1000000 := by have := HI.out.a; have := HN.out; omega
    have j2 : IntKind.i64.wrap ((at_ : Int) + 2) = (at_ : Int) + 2 := by rw [IntKind.wrap_i64]; omega
    by_cases h2 : at_ + 2 ≤ n
    rotate_left
    · have g2 : ¬ (at_ : Int) + 2 ≤ (n : Int) := by omega
      have hD : D = (done, 0, at_) := by rw [← HD.out, HI.out.t, toldF_stop s f at_ (by have := HN.out; omega)]; simp
      subst hD
      go_wp2_with fail
      go_ret3
      obtain ⟨_, _, e2, hrd, _, _⟩ := HI.out.o.rd
      injection e2 with e3 _ e4
      subst e3 e4
      exact ⟨_, ⟨_, rfl⟩, hrd, ToldNw.of HI.out.n HI.out.o HI.out.g⟩
    have g2 : (at_ : Int) + 2 ≤ (n : Int) := by omega
    have cA := HI.out.n.cell (byte_at HB.out at_ (by have := HN.out; omega))
    have cB := HI.out.n.cell (byte_at HB.out (at_ + 1) (by have := HN.out; omega))
    obtain ⟨x, hx⟩ : ∃ x, (s.getD at_ 0).toNat = x := ⟨_, rfl⟩
    obtain ⟨y, hy⟩ : ∃ y, (s.getD (at_ + 1) 0).toNat = y := ⟨_, rfl⟩
    have hx2 : x < 256 := by rw [← hx]; exact UInt8.toNat_lt _
    have hy2 : y < 256 := by rw [← hy]; exact UInt8.toNat_lt _
    rw [hx] at cA
    rw [hy] at cB
    obtain ⟨N, hN⟩ : ∃ N, 256 * x + y = N := ⟨_, rfl⟩
    have jx : IntKind.i64.wrap (x : Int) = (x : Int) := by rw [IntKind.wrap_i64]; omega
    have jy : IntKind.i64.wrap (y : Int) = (y : Int) := by rw [IntKind.wrap_i64]; omega
    have j256 : IntKind.i64.wrap (256 * (x : Int)) = 256 * (x : Int) := by rw [IntKind.wrap_i64]; omega
    have jN : IntKind.i64.wrap (256 * (x : Int) + (y : Int)) = (N : Int) := by rw [IntKind.wrap_i64]; omega
    obtain ⟨a1, ha1⟩ : ∃ a1, at_ + 1 = a1 := ⟨_, rfl⟩
    obtain ⟨p, hp⟩ : ∃ p, at_ + 6 = p := ⟨_, rfl⟩
    obtain ⟨q, hq⟩ : ∃ q, p + N = q := ⟨_, rfl⟩
    have j1 : IntKind.i64.wrap ((at_ : Int) + 1) = (a1 : Int) := by rw [IntKind.wrap_i64]; omega
    have j6 : IntKind.i64.wrap ((at_ : Int) + 6) = (p : Int) := by rw [IntKind.wrap_i64]; omega
    have jq : IntKind.i64.wrap ((p : Int) + (N : Int)) = (q : Int) := by rw [IntKind.wrap_i64]; omega
    have cB' : wr.cell? ⟨b, off + a1, none⟩ = some (.int .u8 (y : Int)) := by rw [← ha1]; exact cB
    have g3 : (at_ : Int) < (n : Int) := by omega
    have g4 : (a1 : Int) < (n : Int) := by omega
    have HXY := Lib.hid (And.intro hx (And.intro hy (And.intro hN (And.intro hx2 hy2))))
    have hNb : N ≤ 65535 := by omega
    have HPQ := Lib.hid (And.intro ha1 (And.intro hp hq))
    clear hx hy hN hx2 hy2 ha1 hp hq
    go_upto_region 4 with (fail)
    have cA2 : wr.drew.cell? ⟨b, off + at_, none⟩ = some (.int .u8 (x : Int)) := cA
    have cB2 : wr.drew.cell? ⟨b, off + a1, none⟩ = some (.int .u8 (y : Int)) := cB'
    go_quiet (fail)
    obtain ⟨w2, hw2⟩ : ∃ W, wr.drewN nq = W := ⟨_, rfl⟩
    rw [hw2]
    have n2 : Nw wr w2 := by rw [← hw2]; exact ((Chg.refl (fun _ => False) wr).many nq).below (fun _ _ h => h.elim) (Nat.le_refl _)
    have HI2 := Lib.hid (show ToldIn w w2 b off c s f at_ done A' c' blk from ⟨HI.out.o.kept fun g hg => n2.block g (HI.out.o.lt g hg), HI.out.g, Nw.step HI.out.n n2, HI.out.t, HI.out.f, HI.out.a, HI.out.k⟩)
    obtain ⟨f', rfl⟩ : ∃ f', f = f' + 1 := ⟨f - 1, by have := HI.out.f; have := HN.out; omega⟩
    have HST := Lib.hid (show toldF s (f' + 1) at_ = if N < 1 ∨ 4096 < N then ([], 10, at_) else if n < at_ + 6 + N then ([], 0, at_) else if frameB ((s.drop (at_ + 6)).take N) ≠ (s.drop at_).take (6 + N) then ([], 11, at_) else ((at_ + 6, N) :: (toldF s f' (at_ + 6 + N)).1, (toldF s f' (at_ + 6 + N)).2) by
      have h := HXY.out
      rw [toldF, h.1, h.2.1, h.2.2.1, HN.out.1, if_neg (by omega)])
    clear hw2 n2 cA cB cA2 cB2 cB'
    by_cases hb1 : N < 1 ∨ 4096 < N
    · rw [if_pos hb1] at HST
      have hD : D = (done, 10, at_) := by rw [← HD.out, HI.out.t, HST.out]; simp
      subst hD
      rcases hb1 with hb1 | hb1
      · have g5 : (N : Int) < 1 := by omega
        go_wp2_with fail
        go_ret3
        obtain ⟨_, _, e2, hrd, _, _⟩ := HI2.out.o.rd
        injection e2 with e3 _ e4
        subst e3 e4
        exact ⟨_, ⟨_, rfl⟩, hrd, ToldNw.of HI2.out.n HI2.out.o HI2.out.g⟩
      · have g5 : ¬ (N : Int) < 1 := by omega
        have g6 : (4096 : Int) < (N : Int) := by omega
        go_wp2_with fail
        go_ret3
        obtain ⟨_, _, e2, hrd, _, _⟩ := HI2.out.o.rd
        injection e2 with e3 _ e4
        subst e3 e4
        exact ⟨_, ⟨_, rfl⟩, hrd, ToldNw.of HI2.out.n HI2.out.o HI2.out.g⟩
    rw [if_neg hb1] at HST
    have g5 : ¬ (N : Int) < 1 := by omega
    have g6 : ¬ (4096 : Int) < (N : Int) := by omega
    by_cases hb2 : n < at_ + 6 + N
    · rw [if_pos hb2] at HST
      have hD : D = (done, 0, at_) := by rw [← HD.out, HI.out.t, HST.out]; simp
      subst hD
      have g7 : (n : Int) < (q : Int) := by have := HPQ.out; omega
      go_wp2_with fail
      go_ret3
      obtain ⟨_, _, e2, hrd, _, _⟩ := HI2.out.o.rd
      injection e2 with e3 _ e4
      subst e3 e4
      exact ⟨_, ⟨_, rfl⟩, hrd, ToldNw.of HI2.out.n HI2.out.o HI2.out.g⟩
    rw [if_neg hb2] at HST
    have g7 : ¬ (n : Int) < (q : Int) := by have := HPQ.out; omega
    have e1 : (q : Int) ≤ (c : Int) := by have := HPQ.out; have := HN.out; omega
    have e2 : (p : Int) ≤ (q : Int) := by have := HPQ.out; omega
    have e3 : ¬ (c : Int) = (p : Int) := by have := HPQ.out; have := HN.out; omega
    have e4 : ¬ c = p := by have := HPQ.out; have := HN.out; omega
    have e5 : q - p = N := by have := HPQ.out; omega
    have e6 : max (q : Int) 0 = (q : Int) := by omega
    have e7 : (at_ : Int) ≤ (q : Int) := by have := HPQ.out; omega
    have e8 : ¬ (c : Int) = (at_ : Int) := by have := HPQ.out; have := HN.out; omega
    have e9 : ¬ c = at_ := by have := HPQ.out; have := HN.out; omega
    have KE := Lib.hid (refEnc_ok w2 (some ⟨b, off + p, none⟩) N (c - p) ((s.drop (at_ + 6)).take N) (by rw [← HPQ.out.2.1]; exact Rd.below (bytes_sub HB.out (at_ + 6) N (by have := HN.out; omega)) HI2.out.n (Nat.le_refl _)) (by have := HN.out; simp; omega) (by omega) (by omega))
    obtain ⟨FB, hFB⟩ : ∃ FB, frameB ((s.drop (at_ + 6)).take N) = FB := ⟨_, rfl⟩
    obtain ⟨SB, hSB⟩ : ∃ SB, (s.drop at_).take (6 + N) = SB := ⟨_, rfl⟩
    rw [hFB, hSB] at HST
    rw [hFB] at KE
    have HFB := Lib.hid hFB
    have HSB := Lib.hid hSB
    clear hFB hSB hb1 hb2
    go_upto_region 8 with (fail)
    go_wp2_with fail
    refine KE.out.mono ?_
    rintro e w3 ⟨A8, c8, rfl, hb8, hc8, n3⟩
    have HI3 := Lib.hid (show ToldIn w w3 b off c s (f' + 1) at_ done A' c' blk from ⟨HI2.out.o.kept fun g hg => n3.block g (HI2.out.o.lt g hg), HI2.out.g, Nw.step HI2.out.n n3, HI2.out.t, HI2.out.f, HI2.out.a, HI2.out.k⟩)
    have hfl : FB.length = 6 + N := by rw [← HFB.out, frameB, List.length_append]; have := HN.out; have := HPQ.out; simp [headB]; omega
    have hsl : SB.length = 6 + N := by rw [← HSB.out]; have := HN.out; have := HPQ.out; simp; omega
    have BT3 := Lib.hid (show BytesAt w3 A8 FB ∧ BytesAt w3 (some ⟨b, off + at_, none⟩) SB from ⟨hb8, by rw [← HSB.out]; exact Rd.below (bytes_sub HB.out at_ (6 + N) (by have := HN.out; omega)) HI3.out.n (Nat.le_refl _)⟩)
    have HLL := Lib.hid (And.intro hfl hsl)
    clear hfl hsl hb8
    have ea : q - at_ = 6 + N := by have := HPQ.out; omega
    by_cases hne : FB ≠ SB
    · rw [if_pos hne] at HST
      have hD : D = (done, 11, at_) := by rw [← HD.out, HI3.out.t, HST.out]; simp
      subst hD
      have hne2 : ¬ ((⟨FB.toArray⟩ : ByteArray) = ⟨SB.toArray⟩) := fun e => hne (by have := congrArg ByteArray.data e; simpa using this)
      have hne3 : (FB == SB) = false := by simpa using hne
      clear hne
      go_upto_region 9 with (fail)
      refine wp_region_F (fun W => Nw w3 W) [10] (by kernel_rfl) ?_
      have hS : Nw w3 w3.drew := (Nw.refl w3).drew
      refine wpAnyF_freeT (i := 0) (v := ?_) rfl (by kernel_rfl) (by kernel_rfl) (by kernel_rfl) (by kernel_rfl) (by kernel_rfl) (fun _ _ _ h => h) (by rfl) ?_ hS ?_
      rotate_left
      · intro u
        go_simp
        try with_reducible rfl
      try simp only [List.getElem_toArray, List.getElem_cons_succ, List.getElem_cons_zero, Act.put, List.setIfInBounds_toArray, List.set_cons_zero, List.set_cons_succ]
      refine wpAnyF_takeT (i := 1) (v := ?_) rfl (by kernel_rfl) (by kernel_rfl) (by kernel_rfl) (by kernel_rfl) (by kernel_rfl) (by kernel_rfl) (fun _ _ _ h => h) (by rfl) ?_ hS ?_
      rotate_left
      · intro u hu
        have s1 := BytesAt.str (show BytesAt u A8 FB from Rd.below BT3.out.1 hu (Nat.le_refl _)) 22 5 9 c8 Tryd.underlying22 Tryd.underlying5 Tryd.underlying9
        rw [HLL.out.1] at s1
        go_simp
        try with_reducible rfl
      try simp only [List.getElem_toArray, List.getElem_cons_succ, List.getElem_cons_zero, Act.put, List.setIfInBounds_toArray, List.set_cons_zero, List.set_cons_succ]
      refine wpAnyF_freeT (i := 2) (v := ?_) rfl (by kernel_rfl) (by kernel_rfl) (by kernel_rfl) (by kernel_rfl) (by kernel_rfl) (fun _ _ _ h => h) (by rfl) ?_ hS ?_
      rotate_left
      · intro u
        go_simp
        try with_reducible rfl
      try simp only [List.getElem_toArray, List.getElem_cons_succ, List.getElem_cons_zero, Act.put, List.setIfInBounds_toArray, List.set_cons_zero, List.set_cons_succ]
      refine wpAnyF_freeT (i := 3) (v := ?_) rfl (by kernel_rfl) (by kernel_rfl) (by kernel_rfl) (by kernel_rfl) (by kernel_rfl) (fun _ _ _ h => h) (by rfl) ?_ hS ?_
      rotate_left
      · intro u
        go_simp
        try with_reducible rfl
      try simp only [List.getElem_toArray, List.getElem_cons_succ, List.getElem_cons_zero, Act.put, List.setIfInBounds_toArray, List.set_cons_zero, List.set_cons_succ]
      refine wpAnyF_freeT (i := 4) (v := ?_) rfl (by kernel_rfl) (by kernel_rfl) (by kernel_rfl) (by kernel_rfl) (by kernel_rfl) (fun _ _ _ h => h) (by rfl) ?_ hS ?_
      rotate_left
      · intro u
        go_simp
        try with_reducible rfl
      try simp only [List.getElem_toArray, List.getElem_cons_succ, List.getElem_cons_zero, Act.put, List.setIfInBounds_toArray, List.set_cons_zero, List.set_cons_succ]
      refine wpAnyF_freeT (i := 5) (v := ?_) rfl (by kernel_rfl) (by kernel_rfl) (by kernel_rfl) (by kernel_rfl) (by kernel_rfl) (fun _ _ _ h => h) (by rfl) ?_ hS ?_
      rotate_left
      · intro u
        go_simp
        try with_reducible rfl
      try simp only [List.getElem_toArray, List.getElem_cons_succ, List.getElem_cons_zero, Act.put, List.setIfInBounds_toArray, List.set_cons_zero, List.set_cons_succ]
      refine wpAnyF_freeT (i := 6) (v := ?_) rfl (by kernel_rfl) (by kernel_rfl) (by kernel_rfl) (by kernel_rfl) (by kernel_rfl) (fun _ _ _ h => h) (by rfl) ?_ hS ?_
      rotate_left
      · intro u
        go_simp
        try with_reducible rfl
      try simp only [List.getElem_toArray, List.getElem_cons_succ, List.getElem_cons_zero, Act.put, List.setIfInBounds_toArray, List.set_cons_zero, List.set_cons_succ]
      refine wpAnyF_freeT (i := 7) (v := ?_) rfl (by kernel_rfl) (by kernel_rfl) (by kernel_rfl) (by kernel_rfl) (by kernel_rfl) (fun _ _ _ h => h) (by rfl) ?_ hS ?_
      rotate_left
      · intro u
        go_simp
        try with_reducible rfl
      try simp only [List.getElem_toArray, List.getElem_cons_succ, List.getElem_cons_zero, Act.put, List.setIfInBounds_toArray, List.set_cons_zero, List.set_cons_succ]
      refine wpAnyF_freeT (i := 8) (v := ?_) rfl (by kernel_rfl) (by kernel_rfl) (by kernel_rfl) (by kernel_rfl) (by kernel_rfl) (fun _ _ _ h => h) (by rfl) ?_ hS ?_
      rotate_left
      · intro u
        go_simp
        try with_reducible rfl
      try simp only [List.getElem_toArray, List.getElem_cons_succ, List.getElem_cons_zero, Act.put, List.setIfInBounds_toArray, List.set_cons_zero, List.set_cons_succ]
      refine wpAnyF_takeT (i := 9) (v := ?_) rfl (by kernel_rfl) (by kernel_rfl) (by kernel_rfl) (by kernel_rfl) (by kernel_rfl) (by kernel_rfl) (fun _ _ _ h => h) (by rfl) ?_ hS ?_
      rotate_left
      · intro u hu
        have s2 := BytesAt.str (show BytesAt u (some ⟨b, off + at_, none⟩) SB from Rd.below BT3.out.2 hu (Nat.le_refl _)) 22 5 9 (c - at_) Tryd.underlying22 Tryd.underlying5 Tryd.underlying9
        rw [HLL.out.2] at s2
        go_simp
        try with_reducible rfl
      try simp only [List.getElem_toArray, List.getElem_cons_succ, List.getElem_cons_zero, Act.put, List.setIfInBounds_toArray, List.set_cons_zero, List.set_cons_succ]
      refine wpAnyF_step (i := 10) (by kernel_rfl) rfl (by rfl) fun K hK => ?_
      go_simp
      refine hK _ _ (.inl (by kernel_rfl)) ?_
      clear hK K
      try simp only [List.getElem_toArray, List.getElem_cons_succ, List.getElem_cons_zero, Act.put, List.setIfInBounds_toArray, List.set_cons_zero, List.set_cons_succ]
      refine wpAnyF_done (by kernel_rfl) ?_ _
      have HO4 := Lib.hid HI3.out.o
      have HN4 := Lib.hid HI3.out.n.drew
      go_wp2_with fail
      go_ret3
      obtain ⟨_, _, e2, hrd, _, _⟩ := HO4.out.rd
      injection e2 with e3 _ e4
      subst e3 e4
      exact ⟨_, ⟨_, rfl⟩, hrd, ToldNw.of HN4.out HO4.out HI3.out.g⟩
    have heq : FB = SB := Classical.not_not.1 hne
    subst heq
    rw [if_neg (by simp)] at HST
    clear hne
    go_upto_region 9 with (fail)
    refine wp_region_F (fun W => Nw w3 W) [10] (by kernel_rfl) ?_
    have hS : Nw w3 w3.drew := (Nw.refl w3).drew
    refine wpAnyF_freeT (i := 0) (v := ?_) rfl (by kernel_rfl) (by kernel_rfl) (by kernel_rfl) (by kernel_rfl) (by kernel_rfl) (fun _ _ _ h => h) (by rfl) ?_ hS ?_
    rotate_left
    · intro u
      go_simp
      try with_reducible rfl
    try simp only [List.getElem_toArray, List.getElem_cons_succ, List.getElem_cons_zero, Act.put, List.setIfInBounds_toArray, List.set_cons_zero, List.set_cons_succ]
    refine wpAnyF_takeT (i := 1) (v := ?_) rfl (by kernel_rfl) (by kernel_rfl) (by kernel_rfl) (by kernel_rfl) (by kernel_rfl) (by kernel_rfl) (fun _ _ _ h => h) (by rfl) ?_ hS ?_
    rotate_left
    · intro u hu
      have s1 := BytesAt.str (show BytesAt u A8 FB from Rd.below BT3.out.1 hu (Nat.le_refl _)) 22 5 9 c8 Tryd.underlying22 Tryd.underlying5 Tryd.underlying9
      rw [HLL.out.1] at s1
      go_simp
      try with_reducible rfl
    try simp only [List.getElem_toArray, List.getElem_cons_succ, List.getElem_cons_zero, Act.put, List.setIfInBounds_toArray, List.set_cons_zero, List.set_cons_succ]
    refine wpAnyF_freeT (i := 2) (v := ?_) rfl (by kernel_rfl) (by kernel_rfl) (by kernel_rfl) (by kernel_rfl) (by kernel_rfl) (fun _ _ _ h => h) (by rfl) ?_ hS ?_
    rotate_left
    · intro u
      go_simp
      try with_reducible rfl
    try simp only [List.getElem_toArray, List.getElem_cons_succ, List.getElem_cons_zero, Act.put, List.setIfInBounds_toArray, List.set_cons_zero, List.set_cons_succ]
    refine wpAnyF_freeT (i := 3) (v := ?_) rfl (by kernel_rfl) (by kernel_rfl) (by kernel_rfl) (by kernel_rfl) (by kernel_rfl) (fun _ _ _ h => h) (by rfl) ?_ hS ?_
    rotate_left
    · intro u
      go_simp
      try with_reducible rfl
    try simp only [List.getElem_toArray, List.getElem_cons_succ, List.getElem_cons_zero, Act.put, List.setIfInBounds_toArray, List.set_cons_zero, List.set_cons_succ]
    refine wpAnyF_freeT (i := 4) (v := ?_) rfl (by kernel_rfl) (by kernel_rfl) (by kernel_rfl) (by kernel_rfl) (by kernel_rfl) (fun _ _ _ h => h) (by rfl) ?_ hS ?_
    rotate_left
    · intro u
      go_simp
      try with_reducible rfl
    try simp only [List.getElem_toArray, List.getElem_cons_succ, List.getElem_cons_zero, Act.put, List.setIfInBounds_toArray, List.set_cons_zero, List.set_cons_succ]
    refine wpAnyF_freeT (i := 5) (v := ?_) rfl (by kernel_rfl) (by kernel_rfl) (by kernel_rfl) (by kernel_rfl) (by kernel_rfl) (fun _ _ _ h => h) (by rfl) ?_ hS ?_
    rotate_left
    · intro u
      go_simp
      try with_reducible rfl
    try simp only [List.getElem_toArray, List.getElem_cons_succ, List.getElem_cons_zero, Act.put, List.setIfInBounds_toArray, List.set_cons_zero, List.set_cons_succ]
    refine wpAnyF_freeT (i := 6) (v := ?_) rfl (by kernel_rfl) (by kernel_rfl) (by kernel_rfl) (by kernel_rfl) (by kernel_rfl) (fun _ _ _ h => h) (by rfl) ?_ hS ?_
    rotate_left
    · intro u
      go_simp
      try with_reducible rfl
    try simp only [List.getElem_toArray, List.getElem_cons_succ, List.getElem_cons_zero, Act.put, List.setIfInBounds_toArray, List.set_cons_zero, List.set_cons_succ]
    refine wpAnyF_freeT (i := 7) (v := ?_) rfl (by kernel_rfl) (by kernel_rfl) (by kernel_rfl) (by kernel_rfl) (by kernel_rfl) (fun _ _ _ h => h) (by rfl) ?_ hS ?_
    rotate_left
    · intro u
      go_simp
      try with_reducible rfl
    try simp only [List.getElem_toArray, List.getElem_cons_succ, List.getElem_cons_zero, Act.put, List.setIfInBounds_toArray, List.set_cons_zero, List.set_cons_succ]
    refine wpAnyF_freeT (i := 8) (v := ?_) rfl (by kernel_rfl) (by kernel_rfl) (by kernel_rfl) (by kernel_rfl) (by kernel_rfl) (fun _ _ _ h => h) (by rfl) ?_ hS ?_
    rotate_left
    · intro u
      go_simp
      try with_reducible rfl
    try simp only [List.getElem_toArray, List.getElem_cons_succ, List.getElem_cons_zero, Act.put, List.setIfInBounds_toArray, List.set_cons_zero, List.set_cons_succ]
    refine wpAnyF_takeT (i := 9) (v := ?_) rfl (by kernel_rfl) (by kernel_rfl) (by kernel_rfl) (by kernel_rfl) (by kernel_rfl) (by kernel_rfl) (fun _ _ _ h => h) (by rfl) ?_ hS ?_
    rotate_left
    · intro u hu
      have s2 := BytesAt.str (show BytesAt u (some ⟨b, off + at_, none⟩) FB from Rd.below BT3.out.2 hu (Nat.le_refl _)) 22 5 9 (c - at_) Tryd.underlying22 Tryd.underlying5 Tryd.underlying9
      rw [HLL.out.2] at s2
      go_simp
      try with_reducible rfl
    try simp only [List.getElem_toArray, List.getElem_cons_succ, List.getElem_cons_zero, Act.put, List.setIfInBounds_toArray, List.set_cons_zero, List.set_cons_succ]
    refine wpAnyF_step (i := 10) (by kernel_rfl) rfl (by rfl) fun K hK => ?_
    go_simp
    refine hK _ _ (.inl (by kernel_rfl)) ?_
    clear hK K
    try simp only [List.getElem_toArray, List.getElem_cons_succ, List.getElem_cons_zero, Act.put, List.setIfInBounds_toArray, List.set_cons_zero, List.set_cons_succ]
    refine wpAnyF_done (by kernel_rfl) ?_ _
    obtain ⟨w4, hw4⟩ : ∃ W, w3.drew = W := ⟨_, rfl⟩
    rw [hw4]
    have n4 : Nw w3 w4 := by rw [← hw4]; exact (Nw.refl w3).drew
    have HO4 := Lib.hid (HI3.out.o.kept fun g hg => n4.block g (HI3.out.o.lt g hg))
    have HN4 := Lib.hid (Nw.step HI3.out.n n4)
    clear hw4 n4 ea
    go_upto_region 11 with (fail)
    go_upto_region 12 with (at_builtin; refine wpList_append_at (w4.alloc (.cells #[.slice (some ⟨b, off + p, none⟩) N (c - p)] 22)) rfl _ _ _ rfl 22 i0 _ 1 24 Tryd.underlying27 HL1.out HL2.out HL3.out HL4.out rfl (by omega) _ done.length (toldV b off c done) blk rfl (HO4.out.kept fun g hg => Below.heap_alloc _ _ _ (HO4.out.lt g hg)) _ 1 1 [.slice (some ⟨b, off + p, none⟩) N (c - p)] rfl rfl (rd_last1 _ _ _) (by simp [Value.oneCell']) (by have h1 := HI3.out.k; have h2 := HI3.out.a; have h3 := HN.out; simp only [maxLen]; omega) (by have h1 := HI3.out.k; have h2 := HI3.out.a; have h3 := HN.out; omega) ?_; intro A2 c2 w6 blk2 hown hchg hat; have HO6 := Lib.hid hown; have HC6 := Lib.hid hchg; have HT6 := Lib.hid hat; clear hown hchg hat)
    go_wp2_with fail
    have hpq := HPQ.out
    have hnn := HN.out
    have nw6 : Nw w w6 := by
      have h : Chg (fun k => some k = blk) w4 w6 := ((Chg.refl (fun k => some k = blk) w4).alloc _).trans HC6.out fun _ _ h => h
      exact Below.trans HN4.out (h.below (fun k _ hq => HI3.out.g k hq.symm) HN4.out.size)
    refine ⟨⟨f', q, done ++ [(p, N)], A2, c2, blk2, by simp, rfl, Lib.hid ⟨?_, ?_, ?_, ?_, by have := HI3.out.f; omega, by omega, by have := HI3.out.k; simp; omega⟩⟩, by simp [intOf]; omega⟩
    · have h := HO6.out
      have e : toldV b off c (done ++ [(p, N)]) = toldV b off c done ++ [.slice (some ⟨b, off + p, none⟩) N (c - p)] := by simp [toldV]
      rw [e, List.length_append]
      exact h
    · intro g hg
      rcases HT6.out with h | h
      · exact HI3.out.g g (h ▸ hg)
      · rw [h] at hg; injection hg with hg
        have := HN4.out.size
        simp at hg
        omega
    · exact nw6
    · rw [HI3.out.t, HST.out, hpq.2.1, hpq.2.2]; simp
theorem Told_any (w : World) (b off n c : Nat) (s : List UInt8) (hb : BytesAt w (some ⟨b, off, none⟩) s) (hn : s.length = n) (hc : n ≤ c) (hm : n ≤ 1000000) :
    Calls Tryd.prog 11 #[.slice (some ⟨b, off, none⟩) n c] w fun e w' => ∃ A' c', e = .returned (.tuple #[.slice A' (told s).1.length c', .int .i64 (told s).2.1, .int .i64 (told s).2.2]) ∧ Rd w' A' (toldV b off c (told s).1) ∧ Nw w w' :=
  (Told_own w b off n c s hb hn hc hm).mono fun e w' ⟨A', c', h1, h2, h3⟩ => ⟨A', c', h1, h2, h3.1⟩
/-- Nothing tells nothing. -/
theorem Told_none (w : World) (A : Option Addr) (c : Nat) :
    Calls Tryd.prog 11 #[.slice A 0 c] w fun e w' => e = .returned (.tuple #[.slice none 0 0, .int .i64 0, .int .i64 0]) ∧ Nw w w' := by
  go_enter Tryd.func11, Tryd.ntmps11
  go_wp2_with fail
  go_loopw [5, 6] (fun x y wr => x = .slice none 0 0 ∧ y = .int .i64 0 ∧ Hid (Nw w wr)) (fun _ _ _ => 0)
  case atStart => exact ⟨rfl, rfl, Lib.hid (Nw.refl w)⟩
  case round =>
    obtain ⟨rfl, rfl, HI⟩ := hrel
    go_wp2_with fail
    go_ret3
    exact ⟨rfl, HI.out⟩
end Go.Proofs.YtalcafaibmbgjaaDoor
