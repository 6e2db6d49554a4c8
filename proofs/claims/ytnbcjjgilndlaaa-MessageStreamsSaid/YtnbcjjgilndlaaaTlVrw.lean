/- Messages: slices.Clone of numbers. Helper. -/
import Derived.Test.YtnbcjjgilndlaaaAkOvW
import Derived.Test.YtnbcjjgilndlaaaRdTx
import Derived.Test.YtnbcjjgilndlaaaRdVars
namespace Go.Proofs.Ytnbcjjgilndlaaa
open Go.RowKit
set_option linter.unusedVariables false
set_option linter.unusedSimpArgs false
set_option maxRecDepth 100000
set_option maxHeartbeats 3200000
theorem long_p (w : World) (P g j : Nat) (v : Int) (out : List UInt8) (blk : Option Nat) (hP : PenW w P out blk) (hc : w.cell? ⟨g, j, none⟩ = some (.int .i64 v)) (hne : g ≠ P) (hnb : some g ≠ blk) (hv : (-9223372036854775808 ≤ v ∧ v ≤ 9223372036854775807)) (hl : out.length ≤ 1000000) :
    Calls Try.prog 61 #[.pointer (some ⟨P, 0, none⟩), .pointer (some ⟨g, j, none⟩)] w fun e w' => e = .returned (.tuple #[]) ∧ ∃ blk', Wrote w w' P blk (out ++ beW v 8) blk' := by
  have KN := Lib.hid (number_write w P g j v out blk 8 (-9223372036854775808) 9223372036854775807 hP hc hne hnb (by omega) hv.1 hv.2 hv hl)
  clear hP hc hne hnb hv hl
  go_enter Try.func61, Try.ntmps61
  go_wp2_with fail
  refine KN.out.mono ?_
  rintro e w2 ⟨rfl, blk', h2⟩
  have HF := Lib.hid h2
  clear h2
  go_wp2_with fail
  go_end0
  exact ⟨rfl, _, HF.out⟩
/-- Numbers' bytes. -/
def flat8 (l : List Int) : List UInt8 := l.flatMap fun v => beW v 8
theorem flat8_length (l : List Int) : (flat8 l).length = 8 * l.length := by
  induction l with
  | nil => rfl
  | cons a l ih => simp only [flat8, List.flatMap_cons, List.length_append, beW_len, List.length_cons] at ih ⊢; omega
theorem flat8_snoc (l : List Int) (i : Nat) (h : i < l.length) : flat8 (l.take (i + 1)) = flat8 (l.take i) ++ beW (l[i]'h) 8 := by
  unfold flat8; rw [List.take_succ_eq_append_getElem h, List.flatMap_append]; simp
theorem ints_chg {w0 W : World} {A : Option Addr} {l : List Int} {M : Nat → Prop} (hb : IntsAt w0 A l) (hA : l = [] ∨ ∀ a, A = some a → a.block < w0.heap.size ∧ ¬ M a.block) (hc : Chg M w0 W) : IntsAt W A l := by
  rcases hA with rfl | hA
  · exact .inl rfl
  rcases hb with h | ⟨b, off, rfl, h⟩
  · exact .inl h
  · refine .inr ⟨b, off, rfl, fun j u hu => ?_⟩
    have h1 := h j u hu
    have hb := hc.block b (hA _ rfl).1 (hA _ rfl).2
    unfold World.cell? at h1 ⊢
    rw [hb]; exact h1
/-- So many variables are written. -/
structure VarsW (w0 wr : World) (P M : Nat) (T : TypeId) (pre : List UInt8) (vs : List Int) (i : Nat) (A : Option Addr) (blk0 : Option Nat) (mc : Array Value) : Prop where
  h : ∃ b, WrSt w0 wr P M T (pre ++ flat8 (vs.take i)) b blk0 mc
  a : IntsAt wr A vs
theorem vars_w (w0 w : World) (P M : Nat) (T : TypeId) (out : List UInt8) (blk blk0 : Option Nat) (mc : Array Value) (o : Nat) (A : Option Addr) (n c : Nat) (vs : List Int) (h : WrSt w0 w P M T out blk blk0 mc) (ho : mc[o]? = some (.slice A n c)) (hb : IntsAt w0 A vs) (hA : vs = [] ∨ ∀ a, A = some a → a.block < w0.heap.size ∧ ¬ (a.block = P ∨ a.block = M ∨ some a.block = blk0)) (hn : vs.length = n) (hv : ∀ v ∈ vs, (-9223372036854775808 ≤ v ∧ v ≤ 9223372036854775807)) (hm : n ≤ 100000) (hl : out.length ≤ 900000) :
    Calls Try.prog 70 #[.pointer (some ⟨P, 0, none⟩), .pointer (some ⟨M, o, none⟩)] w (WrPost w0 P M T out (beW (n : Int) 1 ++ flat8 vs) (n ≤ 8) blk0 mc) := by
  have m0 : w.cell? ⟨M, o, none⟩ = some (.slice A n c) := (h.msg.cell o).trans ho
  obtain ⟨ok, hok⟩ : ∃ ok : Prop, (n ≤ 8) = ok := ⟨_, rfl⟩
  rw [hok]
  have HOK := Lib.hid hok
  have HS := Lib.hid h
  have HB := Lib.hid (And.intro hb hA)
  have HN := Lib.hid (And.intro hn (And.intro hm hl))
  have HV := Lib.hid hv
  have HO := Lib.hid ho
  have hnw : wrap64 (n : Int) = (n : Int) := by unfold wrap64; omega
  have hnw2 : IntKind.i64.wrap (n : Int) = (n : Int) := by rw [IntKind.wrap_i64]; omega
  clear hok hv
  by_cases hk : n ≤ 8
  rotate_left
  · obtain ⟨A1, c1, hp, _⟩ := h.pen
    have hX : Blk (w.alloc (.cells #[.int .i64 (n : Int)] 2)) w.heap.size 2 #[.int .i64 (n : Int)] := Blk.last w _ _ rfl
    have KN := Lib.hid (number_bad (w.alloc (.cells #[.int .i64 (n : Int)] 2)) P w.heap.size 0 n A1 out.length c1 1 0 8 (hp.alloc _) ((hX.cell 0).trans rfl) (by omega))
    have HC := Lib.hid (h.chg.alloc (.cells #[.int .i64 (n : Int)] 2))
    have HK := Lib.hid hk
    clear h ho hX hk hb hA hn hm hl hp
    go_enter Try.func70, Try.ntmps70
    go_wp2_with fail
    refine KN.out.mono ?_
    rintro e w2 ⟨rfl, rfl⟩
    exact ⟨rfl, .inr ⟨fun q => HK.out (Eq.mpr HOK.out q), rfl, HC.out⟩⟩
  have HK := Lib.hid hk
  obtain ⟨wx, hwx⟩ : ∃ wx, w.alloc (.cells #[.int .i64 (n : Int)] 2) = wx := ⟨_, rfl⟩
  have hX : Blk wx w.heap.size 2 #[.int .i64 (n : Int)] := by rw [← hwx]; exact Blk.last w _ _ rfl
  have sx : WrSt w0 wx P M T out blk blk0 mc := by rw [← hwx]; exact h.alloc _
  have KN := Lib.hid (number_write wx P w.heap.size 0 n out blk 1 0 8 sx.pen ((hX.cell 0).trans rfl) (Nat.ne_of_gt h.pen.lt) (fun e => by have := h.pen.blt _ e.symm; omega) (.inl rfl) (by omega) (by omega) (by omega) (by omega))
  have HSX := Lib.hid sx
  have HWX := Lib.hid hwx
  clear h ho hb hA hn hm hl hk hX sx hwx
  go_enter Try.func70, Try.ntmps70
  go_upto_region 1 with (fail)
  rw [HWX.out]
  clear m0
  go_wp2_with fail
  refine KN.out.mono ?_
  rintro e w2 ⟨rfl, b2, h2⟩
  have s2 := HSX.out.wrote h2
  have p1 : w2.cell? ⟨P, 1, none⟩ = some (.bool false) := by obtain ⟨A1, c1, hp, _⟩ := s2.pen; exact (hp.cell 1).trans rfl
  have m2 : w2.cell? ⟨M, o, none⟩ = some (.slice A n c) := (s2.msg.cell o).trans HO.out
  have HS2 := Lib.hid s2
  clear h2 s2
  go_wp2_with fail
  go_loopw [24] (fun y wr => ∃ i : Nat, i ≤ n ∧ y = .int .i64 (i : Int) ∧ Hid (VarsW w0 wr P M T (out ++ beW (n : Int) 1) vs i A blk0 mc)) (fun y _ => n - (intOf y).toNat)
  case atStart => exact ⟨0, Nat.zero_le _, rfl, Lib.hid ⟨⟨_, by simpa [flat8] using HS2.out⟩, ints_chg HB.out.1 HB.out.2 HS2.out.chg⟩⟩
  case round =>
    obtain ⟨i, hi, rfl, HI⟩ := hrel
    clear p1 m2
    by_cases hlt : i < n
    · have i1 : (i : Int) < (n : Int) := by omega
      have i0 : (i : Int) ≤ 8 := by have := HK.out; omega
      obtain ⟨b3, s3⟩ := HI.out.h
      have hiv : i < vs.length := by rw [HN.out.1]; exact hlt
      obtain ⟨g, off, rfl, hx⟩ : ∃ g off, A = some ⟨g, off, none⟩ ∧ wr.cell? ⟨g, off + i, none⟩ = some (.int .i64 (vs[i]'hiv)) := by
        rcases HI.out.a with h | ⟨g, off, rfl, h⟩
        · exfalso
          have := congrArg List.length h
          simp at this
          rw [this] at hiv
          simp at hiv
        · exact ⟨g, off, rfl, h i _ (by simp [hiv])⟩
      obtain ⟨v, hve⟩ : ∃ v, vs[i]'hiv = v := ⟨_, rfl⟩
      rw [hve] at hx
      have hgA := (HB.out.2.resolve_left (fun h => by rw [h] at hiv; simp at hiv)) _ rfl
      have m3 : wr.cell? ⟨M, o, none⟩ = some (.slice (some ⟨g, off, none⟩) n c) := (s3.msg.cell o).trans HO.out
      have hlen : (out ++ beW (n : Int) 1 ++ flat8 (vs.take i)).length ≤ 1000000 := by
        have h1 := HN.out
        have h2 : (vs.take i).length ≤ 8 := by rw [List.length_take]; have := HK.out; omega
        simp only [List.length_append, beW_len, flat8_length]; omega
      have KL := Lib.hid (long_p wr P g (off + i) v _ b3 s3.pen hx (fun e => hgA.2 (.inl e)) (fun e => by
        rcases s3.new with q | ⟨g2, q, hg2⟩
        · exact hgA.2 (.inr (.inr (by rw [e, q])))
        · rw [q] at e; injection e with e; have h1 := hgA.1; have e : g = g2 := e; have h1 : g < w0.heap.size := h1; omega) (HV.out v (by rw [← hve]; exact List.getElem_mem hiv)) hlen)
      have HS3 := Lib.hid s3
      have HVE := Lib.hid hve
      have HLT := Lib.hid (And.intro hlt hiv)
      clear s3 hgA hlen hve hlt
      go_wp2_with fail
      refine KL.out.mono ?_
      rintro e w4 ⟨rfl, b4, h4⟩
      have s4 := HS3.out.wrote h4
      have HS4 := Lib.hid s4
      clear h4 s4 m3 hx
      go_wp2_with fail
      go_roundw
      case rel =>
        refine ⟨i + 1, HLT.out.1, by go_num, Lib.hid ⟨⟨b4, ?_⟩, ints_chg HB.out.1 HB.out.2 HS4.out.chg⟩⟩
        rw [flat8_snoc _ _ HLT.out.2, HVE.out, ← List.append_assoc]
        exact HS4.out
      case measure => have := HLT.out.1; simp [intOf]; omega
    · obtain rfl : i = n := by omega
      have i1 : ¬ (i : Int) < (i : Int) := by omega
      go_wp2_with fail
      go_end0
      obtain ⟨b3, s3⟩ := HI.out.h
      rw [List.take_of_length_le (by have := HN.out.1; omega)] at s3
      exact .inl ⟨Eq.mp HOK.out HK.out, rfl, b3, by rw [← List.append_assoc]; exact s3⟩
end Go.Proofs.Ytnbcjjgilndlaaa
/- Messages: the parts of a response that are written. Helper. -/
namespace Go.Proofs.Ytnbcjjgilndlaaa
open Go.RowKit Go.Shelf
set_option linter.unusedVariables false
set_option linter.unusedSimpArgs false
set_option maxRecDepth 100000
set_option maxHeartbeats 3200000
structure Rs.Fit (q : Rs) : Prop where
  id : 0 ≤ q.id ∧ q.id < 4294967296
  nu : 0 ≤ q.nu ∧ q.nu < 4294967296
  vl : q.vs.length ≤ 1000
  vs : ∀ v ∈ q.vs, -9223372036854775808 ≤ v ∧ v ≤ 9223372036854775807
  f : ∀ v ∈ [q.k, q.er, q.fl, q.rT, q.rO, q.rS, q.rp, q.rn, q.rv, q.T, q.O, q.S, q.tt, q.kd, q.da], -9223372036854775808 ≤ v ∧ v ≤ 9223372036854775807
/-- The parts that responses name. -/
def allS (q : Rs) : List WPart := [⟨65, beW q.id 4, True⟩, ⟨66, beW q.er 1, 0 ≤ q.er ∧ q.er ≤ 16⟩, ⟨68, beW q.fl 8, True⟩, ⟨69, beW (q.vs.length : Int) 1 ++ flat8 q.vs, q.vs.length ≤ 8⟩, ⟨71, (beW q.rT 8 ++ beW q.rO 1 ++ beW q.rS 8) ++ beW q.rp 1 ++ beW q.rn 1 ++ beW q.rv 8, (0 ≤ q.rO ∧ q.rO ≤ 255) ∧ (0 ≤ q.rp ∧ q.rp ≤ 255) ∧ (0 ≤ q.rn ∧ q.rn ≤ 255)⟩, ⟨73, beW q.nu 4, True⟩, ⟨74, (beW q.T 8 ++ beW q.O 1 ++ beW q.S 8) ++ beW q.tt 1 ++ beW q.kd 1 ++ beW q.da 8, (0 ≤ q.O ∧ q.O ≤ 255) ∧ (0 ≤ q.tt ∧ q.tt ≤ 255) ∧ (0 ≤ q.kd ∧ q.kd ≤ 255)⟩]
/-- Those that a kind names. -/
def partsS (k : Nat) (q : Rs) : List WPart :=
  if k = 1 then [⟨65, beW q.id 4, True⟩, ⟨66, beW q.er 1, 0 ≤ q.er ∧ q.er ≤ 16⟩, ⟨68, beW q.fl 8, True⟩]
  else if k = 2 then [⟨65, beW q.id 4, True⟩, ⟨68, beW q.fl 8, True⟩, ⟨69, beW (q.vs.length : Int) 1 ++ flat8 q.vs, q.vs.length ≤ 8⟩]
  else if k = 3 then [⟨71, (beW q.rT 8 ++ beW q.rO 1 ++ beW q.rS 8) ++ beW q.rp 1 ++ beW q.rn 1 ++ beW q.rv 8, (0 ≤ q.rO ∧ q.rO ≤ 255) ∧ (0 ≤ q.rp ∧ q.rp ≤ 255) ∧ (0 ≤ q.rn ∧ q.rn ≤ 255)⟩]
  else if k = 4 then [⟨73, beW q.nu 4, True⟩, ⟨74, (beW q.T 8 ++ beW q.O 1 ++ beW q.S 8) ++ beW q.tt 1 ++ beW q.kd 1 ++ beW q.da 8, (0 ≤ q.O ∧ q.O ≤ 255) ∧ (0 ≤ q.tt ∧ q.tt ≤ 255) ∧ (0 ≤ q.kd ∧ q.kd ≤ 255)⟩]
  else if k = 5 then [⟨66, beW q.er 1, 0 ≤ q.er ∧ q.er ≤ 16⟩]
  else []
theorem partsS_sub (k : Nat) (q : Rs) : ∀ p ∈ partsS k q, p ∈ allS q := by
  intro p hp
  unfold partsS at hp
  repeat' split at hp
  all_goals
    first | (simp at hp; done) | skip
  all_goals
    simp only [List.mem_cons, List.not_mem_nil, or_false] at hp
    simp only [allS, List.mem_cons, List.not_mem_nil, or_false]
    first | (rcases hp with rfl | rfl | rfl <;> simp) | (rcases hp with rfl | rfl <;> simp) | (subst hp; simp)
theorem allS_ent (q : Rs) : ∀ p ∈ allS q, ∀ args W, (callFunc p.f args).run Try.prog W = .ok (.enter p.f args) W := by
  intro p hp args W
  simp only [allS, List.mem_cons, List.not_mem_nil, or_false] at hp
  rcases hp with rfl | rfl | rfl | rfl | rfl | rfl | rfl
  · exact enters_of Try.func65 (by kernel_rfl) rfl args W
  · exact enters_of Try.func66 (by kernel_rfl) rfl args W
  · exact enters_of Try.func68 (by kernel_rfl) rfl args W
  · exact enters_of Try.func69 (by kernel_rfl) rfl args W
  · exact enters_of Try.func71 (by kernel_rfl) rfl args W
  · exact enters_of Try.func73 (by kernel_rfl) rfl args W
  · exact enters_of Try.func74 (by kernel_rfl) rfl args W
theorem partS_step (q : Rs) (A : Option Addr) (c : Nat) (hq : q.Fit) (w0 : World) (P M : Nat) (blk : Option Nat) (hb : IntsAt w0 A q.vs) (hA : q.vs = [] ∨ ∀ a, A = some a → a.block < w0.heap.size ∧ ¬ (a.block = P ∨ a.block = M ∨ some a.block = blk)) (p : WPart) (hp : p ∈ allS q) (W : World) (out : List UInt8) (b : Option Nat) (h : WrSt w0 W P M 42 out b blk (q.c A c).toArray) (hl : out.length ≤ 900000) :
    Calls Try.prog p.f #[.pointer (some ⟨P, 0, none⟩), .pointer (some ⟨M, 0, none⟩)] W (WrPost w0 P M 42 out p.add p.ok blk (q.c A c).toArray) := by
  simp only [allS, List.mem_cons, List.not_mem_nil, or_false] at hp
  have hf := hq.f
  rcases hp with rfl | rfl | rfl | rfl | rfl | rfl | rfl
  · exact tells1_of W P M _ (fun e w' h => wrPost_two h) ((word_wr w0 W P M 42 out b blk _ 1 q.id h rfl hq.id (by omega)).mono fun e w' h => .inl ⟨trivial, h.1, h.2⟩)
  · exact tells2_of W P M _ (fun e w' h => wrPost_two h) (errno_w w0 W P M 42 out b blk _ 2 q.er h rfl (hf q.er (by simp)) (by omega))
  · exact tells3_of W P M _ (fun e w' h => wrPost_two h) ((long_w w0 W P M 42 out b blk _ 3 q.fl h rfl (hf q.fl (by simp)) (by omega)).mono fun e w' h => .inl ⟨trivial, h.1, h.2⟩)
  · exact tells4_of W P M _ (fun e w' h => wrPost_two h) (vars_w w0 W P M 42 out b blk _ 4 A q.vs.length c q.vs h rfl hb hA rfl hq.vs (by have := hq.vl; omega) hl)
  · exact tells5_of W P M _ (fun e w' h => wrPost_two h) (record_w w0 W P M 42 out b blk _ 5 q.rT q.rO q.rS q.rp q.rn q.rv h rfl rfl rfl rfl rfl rfl (hf q.rT (by simp)) (hf q.rO (by simp)) (hf q.rS (by simp)) (hf q.rp (by simp)) (hf q.rn (by simp)) (hf q.rv (by simp)) hl)
  · exact tells6_of W P M _ (fun e w' h => wrPost_two h) ((word_wr w0 W P M 42 out b blk _ 11 q.nu h rfl hq.nu (by omega)).mono fun e w' h => .inl ⟨trivial, h.1, h.2⟩)
  · exact tells7_of W P M _ (fun e w' h => wrPost_two h) (event_w w0 W P M 42 out b blk _ 12 q.T q.O q.S q.tt q.kd q.da h rfl rfl rfl rfl rfl rfl (hf q.T (by simp)) (hf q.O (by simp)) (hf q.S (by simp)) (hf q.tt (by simp)) (hf q.kd (by simp)) (hf q.da (by simp)) hl)
end Go.Proofs.Ytnbcjjgilndlaaa
/- Messages: slices.Clone of numbers. Helper. -/
namespace Go.Proofs.Ytnbcjjgilndlaaa
open Go.RowKit
set_option linter.unusedVariables false
set_option linter.unusedSimpArgs false
set_option maxRecDepth 100000
set_option maxHeartbeats 1600000 in
theorem cloneI_any (w : World) (A : Option Addr) (n c : Nat) (bs : List Int) (hb : IntsAt w A bs) (hn : bs.length = n) (hl : n ≤ 1000000) :
    Calls Try.prog 39 #[.slice A n c] w fun e w' => ∃ A' c', e = .returned (.slice A' n c') ∧ IntsAt w' A' bs ∧ n ≤ c' ∧ Nw w w' ∧ (bs = [] ∨ ∃ g o, A' = some ⟨g, o, none⟩ ∧ w.heap.size ≤ g) := by
  have heq := fun w => Lib.run_eql_slice_nil (P := Try.prog) w 38 2 A n c 0 0 Try.underlying38
  cases A with
  | none =>
    have h0 : bs = [] := by
      rcases hb with h | ⟨b, o, e, _⟩
      · simpa using h
      · cases e
    subst h0
    simp at hn
    subst hn
    clear hb
    go_enter Try.func39, Try.ntmps39
    go_wp2_with fail
    go_ret
    exact ⟨none, 0, rfl, .inl rfl, Nat.le_refl _, Nw.refl w, by simp⟩
  | some a =>
    obtain ⟨i0, hi0, hz0, hz1, hz2⟩ := info_parts infoI64
    have HL1 := Lib.hid hi0
    have HL2 := Lib.hid hz0
    have HL3 := Lib.hid hz1
    have HL4 := Lib.hid hz2
    have HB := Lib.hid hb
    have HN := Lib.hid hn
    clear hi0 hz0 hz1 hz2 hb hn
    go_enter Try.func39, Try.ntmps39
    go_wp2_with (at_builtin; refine wpList_append_at _ rfl _ _ _ rfl 2 i0 _ 1 8 Try.underlying38 HL1.out HL2.out HL3.out HL4.out rfl (by omega) _ 0 [] none rfl (ownEmpty _ _ _ _) _ n c (bs.map fun n => Value.int .i64 n) rfl (by rw [List.length_map, HN.out]; omega) (Rd.below HB.out ((Below.refl w.heap.size w).alloc (Nat.le_refl _) _) (Nat.le_refl _)) (by simp [Value.oneCell']) (by simp only [maxLen]; omega) (by omega) ?_; intro A' c' w1 blk hown hchg hat; simp only [Nat.zero_add, List.nil_append] at hown; have HO := Lib.hid hown; have HC := Lib.hid hchg; have HA := Lib.hid hat; clear hown hchg hat; simp only [Nat.zero_add])
    go_ret
    obtain ⟨A2, c2, e, hrd, hnc, _⟩ := HO.out.rd
    injection e with e1 _ e3
    subst e1 e3
    refine ⟨A', c', rfl, hrd, hnc, ((Below.refl w.heap.size w).alloc (Nat.le_refl _) _).trans (HC.out.below (fun i _ h => by cases h) (by simp)), ?_⟩
    by_cases h0 : bs = []
    · exact .inl h0
    · refine .inr ?_
      have hpos : 0 < bs.length := List.length_pos_iff.2 h0
      have hnn := HN.out
      obtain ⟨_, A3, c3, e, h1, h2, h | ⟨g, off, cur, q1, q2, _⟩⟩ := HO.out
      · omega
      · injection e with e1 _ e3
        subst e1
        refine ⟨g, off, q1, ?_⟩
        rcases HA.out with q | q
        · rw [q] at q2; cases q2
        · rw [q] at q2; injection q2 with q2; simp at q2; omega
end Go.Proofs.Ytnbcjjgilndlaaa
