/- Messages: a model's text written, or it is ended. Helper. -/
import Derived.Test.YtnbcjjgilndlaaaRdRdr
namespace Go.Proofs.Ytnbcjjgilndlaaa
open Go.RowKit
set_option linter.unusedVariables false
set_option linter.unusedSimpArgs false
set_option maxRecDepth 100000
set_option maxHeartbeats 3200000
theorem number_bad (w : World) (P Nb no : Nat) (v : Int) (A : Option Addr) (n c k : Nat) (lo hi : Int) (hP : Blk w P 76 #[.slice A n c, .bool false]) (hnc : w.cell? ⟨Nb, no, none⟩ = some (.int .i64 v)) (hb : ¬ (lo ≤ v ∧ v ≤ hi)) :
    Calls Try.prog 79 #[.pointer (some ⟨P, 0, none⟩), .pointer (some ⟨Nb, no, none⟩), .int .i64 (k : Int), .int .i64 lo, .int .i64 hi] w fun e w' => e = .panicked boom ∧ w' = w := by
  have c1 : w.cell? ⟨P, 1, none⟩ = some (.bool false) := (hP.cell 1).trans rfl
  have KN := Lib.hid (fun w => check_no w)
  clear hP
  by_cases h1 : lo ≤ v
  · have h2 : ¬ v ≤ hi := fun h => hb ⟨h1, h⟩
    clear hb
    go_enter Try.func79, Try.ntmps79
    go_wp2_with fail
    first
      | refine (KN.out _).mono ?_
      | (rw [decide_eq_false (show ¬ v ≤ _ by omega)]; refine (KN.out _).mono ?_)
    rintro e w1 ⟨rfl, rfl⟩
    exact ⟨rfl, rfl, rfl⟩
  · clear hb
    go_enter Try.func79, Try.ntmps79
    go_wp2_with fail
    refine (KN.out _).mono ?_
    rintro e w1 ⟨rfl, rfl⟩
    exact ⟨rfl, rfl, rfl⟩
theorem beW_len (v : Int) (k : Nat) : (beW v k).length = k := by
  induction k with
  | zero => rfl
  | succ k ih => simp [beW, ih]
theorem WrSt.wrote {w0 w w' : World} {P M : Nat} {T : TypeId} {out out' : List UInt8} {blk blk' blk0 : Option Nat} {mc : Array Value} (h : WrSt w0 w P M T out blk blk0 mc) (h2 : Wrote w w' P blk out' blk') : WrSt w0 w' P M T out' blk' blk0 mc := by
  refine ⟨h2.pen, ?_, h.msg.chg h2.chg fun q => q.elim h.ne (fun e => h.pen.neT h.msg h.ty e.symm), h.ne, h.ty, h.chg.trans h2.chg fun i hi he => ?_⟩
  · rcases h2.new with e | ⟨g, e, hg⟩
    · rw [e]; exact h.new
    · exact .inr ⟨g, e, Nat.le_trans h.chg.size hg⟩
  · rcases he with e | e
    · exact .inl e
    · rcases h.new with q | ⟨g, q, hg⟩
      · rw [← q]; exact .inr (.inr e)
      · rw [q] at e; injection e with e; omega
/-- What writing leaves: the bytes are written, if they may be; else it is ended. -/
def WrPost (w0 : World) (P M : Nat) (T : TypeId) (out add : List UInt8) (ok : Prop) (blk0 : Option Nat) (mc : Array Value) (e : Ending) (w : World) : Prop :=
  (ok ∧ e = .returned (.tuple #[]) ∧ ∃ blk, WrSt w0 w P M T (out ++ add) blk blk0 mc) ∨ (¬ ok ∧ e = .panicked boom ∧ Chg (fun i => i = P ∨ i = M ∨ some i = blk0) w0 w)
theorem wrPost_two {w0 : World} {P M : Nat} {T : TypeId} {out add : List UInt8} {ok : Prop} {blk0 : Option Nat} {mc : Array Value} {e : Ending} {w : World} (h : WrPost w0 P M T out add ok blk0 mc e w) : e = .returned (.tuple #[]) ∨ e = .panicked boom :=
  h.elim (fun h => .inl h.2.1) (fun h => .inr h.2.1)
theorem long_w (w0 w : World) (P M : Nat) (T : TypeId) (out : List UInt8) (blk blk0 : Option Nat) (mc : Array Value) (o : Nat) (v : Int) (h : WrSt w0 w P M T out blk blk0 mc) (ho : mc[o]? = some (.int .i64 v)) (hv : (-9223372036854775808 ≤ v ∧ v ≤ 9223372036854775807)) (hl : out.length ≤ 1000000) :
    Calls Try.prog 61 #[.pointer (some ⟨P, 0, none⟩), .pointer (some ⟨M, o, none⟩)] w fun e w' => e = .returned (.tuple #[]) ∧ ∃ blk', WrSt w0 w' P M T (out ++ beW v 8) blk' blk0 mc := by
  have KN := Lib.hid (number_write w P M o v out blk 8 (-9223372036854775808) 9223372036854775807 h.pen ((h.msg.cell o).trans ho) h.ne (fun e => h.pen.neT h.msg h.ty e.symm) (by omega) hv.1 hv.2 hv hl)
  have HS := Lib.hid h
  clear h ho hv hl
  go_enter Try.func61, Try.ntmps61
  go_wp2_with fail
  refine KN.out.mono ?_
  rintro e w2 ⟨rfl, blk', h2⟩
  have HF := Lib.hid (HS.out.wrote h2)
  clear h2
  go_wp2_with fail
  go_end0
  exact ⟨rfl, _, HF.out⟩
theorem small_w (w0 w : World) (P M : Nat) (T : TypeId) (out : List UInt8) (blk blk0 : Option Nat) (mc : Array Value) (o : Nat) (v : Int) (h : WrSt w0 w P M T out blk blk0 mc) (ho : mc[o]? = some (.int .i64 v)) (hv : (-9223372036854775808 ≤ v ∧ v ≤ 9223372036854775807)) (hl : out.length ≤ 1000000) :
    Calls Try.prog 51 #[.pointer (some ⟨P, 0, none⟩), .pointer (some ⟨M, o, none⟩)] w (WrPost w0 P M T out (beW v 1) (0 ≤ v ∧ v ≤ 255) blk0 mc) := by
  have c0 : w.cell? ⟨M, o, none⟩ = some (.int .i64 v) := (h.msg.cell o).trans ho
  by_cases hk : 0 ≤ v ∧ v ≤ 255
  · have HO := Lib.hid ho
    have HK := Lib.hid hk
    have KN := Lib.hid (h.number v 2 1 0 255 (.inl rfl) hk.1 hk.2 hv hl)
    clear h ho hv hl hk
    go_enter Try.func51, Try.ntmps51
    go_wp2_with fail
    refine KN.out.mono ?_
    rintro e w2 ⟨rfl, hx, hM, hfin⟩
    have c1 := (hM.cell o).trans HO.out
    have z1 := hM.frozen o
    have HF := Lib.hid (hfin o _ HO.out)
    clear hM hfin
    go_wp2_with fail
    go_end0
    exact .inl ⟨HK.out, rfl, HF.out⟩
  · obtain ⟨A, c, hp, _⟩ := h.pen
    have hX : Blk (w.alloc (.cells #[.int .i64 v] 2)) w.heap.size 2 #[.int .i64 v] := Blk.last w _ _ rfl
    have KN := Lib.hid (number_bad (w.alloc (.cells #[.int .i64 v] 2)) P w.heap.size 0 v A out.length c 1 0 255 (hp.alloc _) ((hX.cell 0).trans rfl) hk)
    have HC := Lib.hid (h.chg.alloc (.cells #[.int .i64 v] 2))
    have HK := Lib.hid hk
    clear h ho hX hk hv hl hp
    go_enter Try.func51, Try.ntmps51
    go_wp2_with fail
    refine KN.out.mono ?_
    rintro e w2 ⟨rfl, rfl⟩
    exact ⟨rfl, .inr ⟨HK.out, rfl, HC.out⟩⟩
theorem errno_w (w0 w : World) (P M : Nat) (T : TypeId) (out : List UInt8) (blk blk0 : Option Nat) (mc : Array Value) (o : Nat) (v : Int) (h : WrSt w0 w P M T out blk blk0 mc) (ho : mc[o]? = some (.int .i64 v)) (hv : (-9223372036854775808 ≤ v ∧ v ≤ 9223372036854775807)) (hl : out.length ≤ 1000000) :
    Calls Try.prog 67 #[.pointer (some ⟨P, 0, none⟩), .pointer (some ⟨M, o, none⟩)] w (WrPost w0 P M T out (beW v 1) (0 ≤ v ∧ v ≤ 16) blk0 mc) := by
  have c0 : w.cell? ⟨M, o, none⟩ = some (.int .i64 v) := (h.msg.cell o).trans ho
  by_cases hk : 0 ≤ v ∧ v ≤ 16
  · have HO := Lib.hid ho
    have HK := Lib.hid hk
    have KN := Lib.hid (h.number v 2 1 0 16 (.inl rfl) hk.1 hk.2 hv hl)
    clear h ho hv hl hk
    go_enter Try.func67, Try.ntmps67
    go_wp2_with fail
    refine KN.out.mono ?_
    rintro e w2 ⟨rfl, hx, hM, hfin⟩
    have c1 := (hM.cell o).trans HO.out
    have z1 := hM.frozen o
    have HF := Lib.hid (hfin o _ HO.out)
    clear hM hfin
    go_wp2_with fail
    go_end0
    exact .inl ⟨HK.out, rfl, HF.out⟩
  · obtain ⟨A, c, hp, _⟩ := h.pen
    have hX : Blk (w.alloc (.cells #[.int .i64 v] 2)) w.heap.size 2 #[.int .i64 v] := Blk.last w _ _ rfl
    have KN := Lib.hid (number_bad (w.alloc (.cells #[.int .i64 v] 2)) P w.heap.size 0 v A out.length c 1 0 16 (hp.alloc _) ((hX.cell 0).trans rfl) hk)
    have HC := Lib.hid (h.chg.alloc (.cells #[.int .i64 v] 2))
    have HK := Lib.hid hk
    clear h ho hX hk hv hl hp
    go_enter Try.func67, Try.ntmps67
    go_wp2_with fail
    refine KN.out.mono ?_
    rintro e w2 ⟨rfl, rfl⟩
    exact ⟨rfl, .inr ⟨HK.out, rfl, HC.out⟩⟩
theorem key_w (w0 w : World) (P M : Nat) (T : TypeId) (out : List UInt8) (blk blk0 : Option Nat) (mc : Array Value) (o : Nat) (v0 v1 v2 : Int) (h : WrSt w0 w P M T out blk blk0 mc) (hv0 : mc[o]? = some (.int .i64 v0)) (hv1 : mc[(o + 1)]? = some (.int .i64 v1)) (hv2 : mc[(o + 2)]? = some (.int .i64 v2)) (rv0 : (-9223372036854775808 ≤ v0 ∧ v0 ≤ 9223372036854775807)) (rv1 : (-9223372036854775808 ≤ v1 ∧ v1 ≤ 9223372036854775807)) (rv2 : (-9223372036854775808 ≤ v2 ∧ v2 ≤ 9223372036854775807)) (hl : out.length ≤ 900000) :
    Calls Try.prog 81 #[.pointer (some ⟨P, 0, none⟩), .pointer (some ⟨M, o, none⟩)] w (WrPost w0 P M T out (beW v0 8 ++ beW v1 1 ++ beW v2 8) ((0 ≤ v1 ∧ v1 ≤ 255)) blk0 mc) := by
  have HCv0 := Lib.hid hv0
  have HRv0 := Lib.hid rv0
  have HCv1 := Lib.hid hv1
  have HRv1 := Lib.hid rv1
  have HCv2 := Lib.hid hv2
  have HRv2 := Lib.hid rv2
  have HS0 := Lib.hid h
  have HL := Lib.hid hl
  obtain ⟨ok, hok⟩ : ∃ ok : Prop, ((0 ≤ v1 ∧ v1 ≤ 255)) = ok := ⟨_, rfl⟩
  rw [hok]
  have HOK := Lib.hid hok
  clear h hl hok hv0 rv0 hv1 rv1 hv2 rv2
  go_enter Try.func81, Try.ntmps81
  go_wp2_with fail
  refine (long_w w0 _ P M T _ blk blk0 mc o v0 HS0.out HCv0.out HRv0.out (by have := HL.out; omega)).mono ?_
  rintro e w1 ⟨rfl, b1, s1⟩
  have HS1 := Lib.hid s1
  clear s1
  go_wp2_with fail
  refine (small_w w0 _ P M T _ b1 blk0 mc (o + 1) v1 HS1.out HCv1.out HRv1.out (by have := HL.out; simp only [List.length_append, beW_len]; omega)).mono ?_
  rintro e w2 (⟨k2, rfl, b2, s2⟩ | ⟨k2, rfl, hc⟩)
  rotate_left
  · exact ⟨rfl, .inr ⟨fun h => k2 ((Eq.mpr HOK.out h)), rfl, hc⟩⟩
  have K2 := Lib.hid k2
  clear k2
  have HS2 := Lib.hid s2
  clear s2
  go_wp2_with fail
  refine (long_w w0 _ P M T _ b2 blk0 mc (o + 2) v2 HS2.out HCv2.out HRv2.out (by have := HL.out; simp only [List.length_append, beW_len]; omega)).mono ?_
  rintro e w3 ⟨rfl, b3, s3⟩
  have HS3 := Lib.hid s3
  clear s3
  go_wp2_with fail
  go_end0
  exact .inl ⟨Eq.mp HOK.out (K2.out), rfl, _, by simpa [List.append_assoc] using HS3.out⟩
theorem event_w (w0 w : World) (P M : Nat) (T : TypeId) (out : List UInt8) (blk blk0 : Option Nat) (mc : Array Value) (o : Nat) (v0 v1 v2 v3 v4 v5 : Int) (h : WrSt w0 w P M T out blk blk0 mc) (hv0 : mc[o]? = some (.int .i64 v0)) (hv1 : mc[(o + 1)]? = some (.int .i64 v1)) (hv2 : mc[(o + 2)]? = some (.int .i64 v2)) (hv3 : mc[(o + 3)]? = some (.int .i64 v3)) (hv4 : mc[(o + 4)]? = some (.int .i64 v4)) (hv5 : mc[(o + 5)]? = some (.int .i64 v5)) (rv0 : (-9223372036854775808 ≤ v0 ∧ v0 ≤ 9223372036854775807)) (rv1 : (-9223372036854775808 ≤ v1 ∧ v1 ≤ 9223372036854775807)) (rv2 : (-9223372036854775808 ≤ v2 ∧ v2 ≤ 9223372036854775807)) (rv3 : (-9223372036854775808 ≤ v3 ∧ v3 ≤ 9223372036854775807)) (rv4 : (-9223372036854775808 ≤ v4 ∧ v4 ≤ 9223372036854775807)) (rv5 : (-9223372036854775808 ≤ v5 ∧ v5 ≤ 9223372036854775807)) (hl : out.length ≤ 900000) :
    Calls Try.prog 75 #[.pointer (some ⟨P, 0, none⟩), .pointer (some ⟨M, o, none⟩)] w (WrPost w0 P M T out ((beW v0 8 ++ beW v1 1 ++ beW v2 8) ++ beW v3 1 ++ beW v4 1 ++ beW v5 8) ((0 ≤ v1 ∧ v1 ≤ 255) ∧ (0 ≤ v3 ∧ v3 ≤ 255) ∧ (0 ≤ v4 ∧ v4 ≤ 255)) blk0 mc) := by
  have HCv0 := Lib.hid hv0
  have HRv0 := Lib.hid rv0
  have HCv1 := Lib.hid hv1
  have HRv1 := Lib.hid rv1
  have HCv2 := Lib.hid hv2
  have HRv2 := Lib.hid rv2
  have HCv3 := Lib.hid hv3
  have HRv3 := Lib.hid rv3
  have HCv4 := Lib.hid hv4
  have HRv4 := Lib.hid rv4
  have HCv5 := Lib.hid hv5
  have HRv5 := Lib.hid rv5
  have HS0 := Lib.hid h
  have HL := Lib.hid hl
  obtain ⟨ok, hok⟩ : ∃ ok : Prop, ((0 ≤ v1 ∧ v1 ≤ 255) ∧ (0 ≤ v3 ∧ v3 ≤ 255) ∧ (0 ≤ v4 ∧ v4 ≤ 255)) = ok := ⟨_, rfl⟩
  rw [hok]
  have HOK := Lib.hid hok
  clear h hl hok hv0 rv0 hv1 rv1 hv2 rv2 hv3 rv3 hv4 rv4 hv5 rv5
  go_enter Try.func75, Try.ntmps75
  go_wp2_with fail
  refine (key_w w0 _ P M T _ blk blk0 mc o v0 v1 v2 HS0.out HCv0.out HCv1.out HCv2.out HRv0.out HRv1.out HRv2.out (by have := HL.out; omega)).mono ?_
  rintro e w1 (⟨k1, rfl, b1, s1⟩ | ⟨k1, rfl, hc⟩)
  rotate_left
  · exact ⟨rfl, .inr ⟨fun h => k1 ((Eq.mpr HOK.out h).1), rfl, hc⟩⟩
  have K1 := Lib.hid k1
  clear k1
  have HS1 := Lib.hid s1
  clear s1
  go_wp2_with fail
  refine (small_w w0 _ P M T _ b1 blk0 mc (o + 3) v3 HS1.out HCv3.out HRv3.out (by have := HL.out; simp only [List.length_append, beW_len]; omega)).mono ?_
  rintro e w2 (⟨k2, rfl, b2, s2⟩ | ⟨k2, rfl, hc⟩)
  rotate_left
  · exact ⟨rfl, .inr ⟨fun h => k2 ((Eq.mpr HOK.out h).2.1), rfl, hc⟩⟩
  have K2 := Lib.hid k2
  clear k2
  have HS2 := Lib.hid s2
  clear s2
  go_wp2_with fail
  refine (small_w w0 _ P M T _ b2 blk0 mc (o + 4) v4 HS2.out HCv4.out HRv4.out (by have := HL.out; simp only [List.length_append, beW_len]; omega)).mono ?_
  rintro e w3 (⟨k3, rfl, b3, s3⟩ | ⟨k3, rfl, hc⟩)
  rotate_left
  · exact ⟨rfl, .inr ⟨fun h => k3 ((Eq.mpr HOK.out h).2.2), rfl, hc⟩⟩
  have K3 := Lib.hid k3
  clear k3
  have HS3 := Lib.hid s3
  clear s3
  go_wp2_with fail
  refine (long_w w0 _ P M T _ b3 blk0 mc (o + 5) v5 HS3.out HCv5.out HRv5.out (by have := HL.out; simp only [List.length_append, beW_len]; omega)).mono ?_
  rintro e w4 ⟨rfl, b4, s4⟩
  have HS4 := Lib.hid s4
  clear s4
  go_wp2_with fail
  go_end0
  exact .inl ⟨Eq.mp HOK.out (⟨K1.out, K2.out, K3.out⟩), rfl, _, by simpa [List.append_assoc] using HS4.out⟩
theorem record_w (w0 w : World) (P M : Nat) (T : TypeId) (out : List UInt8) (blk blk0 : Option Nat) (mc : Array Value) (o : Nat) (v0 v1 v2 v3 v4 v5 : Int) (h : WrSt w0 w P M T out blk blk0 mc) (hv0 : mc[o]? = some (.int .i64 v0)) (hv1 : mc[(o + 1)]? = some (.int .i64 v1)) (hv2 : mc[(o + 2)]? = some (.int .i64 v2)) (hv3 : mc[(o + 3)]? = some (.int .i64 v3)) (hv4 : mc[(o + 4)]? = some (.int .i64 v4)) (hv5 : mc[(o + 5)]? = some (.int .i64 v5)) (rv0 : (-9223372036854775808 ≤ v0 ∧ v0 ≤ 9223372036854775807)) (rv1 : (-9223372036854775808 ≤ v1 ∧ v1 ≤ 9223372036854775807)) (rv2 : (-9223372036854775808 ≤ v2 ∧ v2 ≤ 9223372036854775807)) (rv3 : (-9223372036854775808 ≤ v3 ∧ v3 ≤ 9223372036854775807)) (rv4 : (-9223372036854775808 ≤ v4 ∧ v4 ≤ 9223372036854775807)) (rv5 : (-9223372036854775808 ≤ v5 ∧ v5 ≤ 9223372036854775807)) (hl : out.length ≤ 900000) :
    Calls Try.prog 72 #[.pointer (some ⟨P, 0, none⟩), .pointer (some ⟨M, o, none⟩)] w (WrPost w0 P M T out ((beW v0 8 ++ beW v1 1 ++ beW v2 8) ++ beW v3 1 ++ beW v4 1 ++ beW v5 8) ((0 ≤ v1 ∧ v1 ≤ 255) ∧ (0 ≤ v3 ∧ v3 ≤ 255) ∧ (0 ≤ v4 ∧ v4 ≤ 255)) blk0 mc) := by
  have HCv0 := Lib.hid hv0
  have HRv0 := Lib.hid rv0
  have HCv1 := Lib.hid hv1
  have HRv1 := Lib.hid rv1
  have HCv2 := Lib.hid hv2
  have HRv2 := Lib.hid rv2
  have HCv3 := Lib.hid hv3
  have HRv3 := Lib.hid rv3
  have HCv4 := Lib.hid hv4
  have HRv4 := Lib.hid rv4
  have HCv5 := Lib.hid hv5
  have HRv5 := Lib.hid rv5
  have HS0 := Lib.hid h
  have HL := Lib.hid hl
  obtain ⟨ok, hok⟩ : ∃ ok : Prop, ((0 ≤ v1 ∧ v1 ≤ 255) ∧ (0 ≤ v3 ∧ v3 ≤ 255) ∧ (0 ≤ v4 ∧ v4 ≤ 255)) = ok := ⟨_, rfl⟩
  rw [hok]
  have HOK := Lib.hid hok
  clear h hl hok hv0 rv0 hv1 rv1 hv2 rv2 hv3 rv3 hv4 rv4 hv5 rv5
  go_enter Try.func72, Try.ntmps72
  go_wp2_with fail
  refine (key_w w0 _ P M T _ blk blk0 mc o v0 v1 v2 HS0.out HCv0.out HCv1.out HCv2.out HRv0.out HRv1.out HRv2.out (by have := HL.out; omega)).mono ?_
  rintro e w1 (⟨k1, rfl, b1, s1⟩ | ⟨k1, rfl, hc⟩)
  rotate_left
  · exact ⟨rfl, .inr ⟨fun h => k1 ((Eq.mpr HOK.out h).1), rfl, hc⟩⟩
  have K1 := Lib.hid k1
  clear k1
  have HS1 := Lib.hid s1
  clear s1
  go_wp2_with fail
  refine (small_w w0 _ P M T _ b1 blk0 mc (o + 3) v3 HS1.out HCv3.out HRv3.out (by have := HL.out; simp only [List.length_append, beW_len]; omega)).mono ?_
  rintro e w2 (⟨k2, rfl, b2, s2⟩ | ⟨k2, rfl, hc⟩)
  rotate_left
  · exact ⟨rfl, .inr ⟨fun h => k2 ((Eq.mpr HOK.out h).2.1), rfl, hc⟩⟩
  have K2 := Lib.hid k2
  clear k2
  have HS2 := Lib.hid s2
  clear s2
  go_wp2_with fail
  refine (small_w w0 _ P M T _ b2 blk0 mc (o + 4) v4 HS2.out HCv4.out HRv4.out (by have := HL.out; simp only [List.length_append, beW_len]; omega)).mono ?_
  rintro e w3 (⟨k3, rfl, b3, s3⟩ | ⟨k3, rfl, hc⟩)
  rotate_left
  · exact ⟨rfl, .inr ⟨fun h => k3 ((Eq.mpr HOK.out h).2.2), rfl, hc⟩⟩
  have K3 := Lib.hid k3
  clear k3
  have HS3 := Lib.hid s3
  clear s3
  go_wp2_with fail
  refine (long_w w0 _ P M T _ b3 blk0 mc (o + 5) v5 HS3.out HCv5.out HRv5.out (by have := HL.out; simp only [List.length_append, beW_len]; omega)).mono ?_
  rintro e w4 ⟨rfl, b4, s4⟩
  have HS4 := Lib.hid s4
  clear s4
  go_wp2_with fail
  go_end0
  exact .inl ⟨Eq.mp HOK.out (⟨K1.out, K2.out, K3.out⟩), rfl, _, by simpa [List.append_assoc] using HS4.out⟩
theorem asked_w (w0 w : World) (P M : Nat) (T : TypeId) (out : List UInt8) (blk blk0 : Option Nat) (mc : Array Value) (o : Nat) (v0 O S v3 v4 v5 : Int) (h : WrSt w0 w P M T out blk blk0 mc) (hv0 : mc[o]? = some (.int .i64 v0)) (hO : mc[o + 1]? = some (.int .i64 O)) (hS : mc[o + 2]? = some (.int .i64 S)) (hv3 : mc[(o + 3)]? = some (.int .i64 v3)) (hv4 : mc[(o + 4)]? = some (.int .i64 v4)) (hv5 : mc[(o + 5)]? = some (.int .i64 v5)) (rv0 : (-9223372036854775808 ≤ v0 ∧ v0 ≤ 9223372036854775807)) (rv3 : (-9223372036854775808 ≤ v3 ∧ v3 ≤ 9223372036854775807)) (rv4 : (-9223372036854775808 ≤ v4 ∧ v4 ≤ 9223372036854775807)) (rv5 : (-9223372036854775808 ≤ v5 ∧ v5 ≤ 9223372036854775807)) (hl : out.length ≤ 900000) :
    Calls Try.prog 55 #[.pointer (some ⟨P, 0, none⟩), .pointer (some ⟨M, o, none⟩)] w (WrPost w0 P M T out (beW v0 8 ++ beW v3 1 ++ beW v4 1 ++ beW v5 8) ((O = 0 ∧ S = 0) ∧ (0 ≤ v3 ∧ v3 ≤ 255) ∧ (0 ≤ v4 ∧ v4 ≤ 255)) blk0 mc) := by
  have HCv0 := Lib.hid hv0
  have HRv0 := Lib.hid rv0
  have HCv3 := Lib.hid hv3
  have HRv3 := Lib.hid rv3
  have HCv4 := Lib.hid hv4
  have HRv4 := Lib.hid rv4
  have HCv5 := Lib.hid hv5
  have HRv5 := Lib.hid rv5
  have HCO := Lib.hid hO
  have HCS := Lib.hid hS
  have HS0 := Lib.hid h
  clear hO hS
  have HL := Lib.hid hl
  obtain ⟨ok, hok⟩ : ∃ ok : Prop, ((O = 0 ∧ S = 0) ∧ (0 ≤ v3 ∧ v3 ≤ 255) ∧ (0 ≤ v4 ∧ v4 ≤ 255)) = ok := ⟨_, rfl⟩
  rw [hok]
  have HOK := Lib.hid hok
  clear h hl hok hv0 rv0 hv3 rv3 hv4 rv4 hv5 rv5
  by_cases hz : O = 0 ∧ S = 0
  rotate_left
  · have d1 := (HS0.out.msg.cell _).trans HCO.out
    have d2 := (HS0.out.msg.cell _).trans HCS.out
    have HZ := Lib.hid hz
    have HG := Lib.hid HS0.out.chg
    by_cases h1 : O = 0
    · have h2 : ¬ S = 0 := fun h => hz ⟨h1, h⟩
      clear hz
      subst h1
      go_enter Try.func55, Try.ntmps55
      go_wp2_with fail
      have h3 : (S == 0) = false := by simpa using h2
      try rw [h3]
      refine (check_no _).mono ?_
      rintro e w9 ⟨rfl, rfl⟩
      exact ⟨rfl, .inr ⟨fun h => HZ.out (Eq.mpr HOK.out h).1, rfl, HG.out⟩⟩
    · clear hz
      have h3 : (O == 0) = false := by simpa using h1
      go_enter Try.func55, Try.ntmps55
      go_wp2_with fail
      try rw [h3]
      refine (check_no _).mono ?_
      rintro e w9 ⟨rfl, rfl⟩
      exact ⟨rfl, .inr ⟨fun h => HZ.out (Eq.mpr HOK.out h).1, rfl, HG.out⟩⟩
  obtain ⟨rfl, rfl⟩ := hz
  have HPRE := Lib.hid (show (0 : Int) = 0 ∧ (0 : Int) = 0 from ⟨rfl, rfl⟩)
  have d1 := (HS0.out.msg.cell _).trans HCO.out
  have d2 := (HS0.out.msg.cell _).trans HCS.out
  go_enter Try.func55, Try.ntmps55
  go_wp2_with fail
  refine (check_yes _).mono ?_
  rintro e w9 ⟨rfl, rfl⟩
  go_wp2_with fail
  clear d1 d2
  refine (long_w w0 _ P M T _ blk blk0 mc o v0 HS0.out HCv0.out HRv0.out (by have := HL.out; omega)).mono ?_
  rintro e w1 ⟨rfl, b1, s1⟩
  have HS1 := Lib.hid s1
  clear s1
  go_wp2_with fail
  refine (small_w w0 _ P M T _ b1 blk0 mc (o + 3) v3 HS1.out HCv3.out HRv3.out (by have := HL.out; simp only [List.length_append, beW_len]; omega)).mono ?_
  rintro e w2 (⟨k2, rfl, b2, s2⟩ | ⟨k2, rfl, hc⟩)
  rotate_left
  · exact ⟨rfl, .inr ⟨fun h => k2 ((Eq.mpr HOK.out h).2.1), rfl, hc⟩⟩
  have K2 := Lib.hid k2
  clear k2
  have HS2 := Lib.hid s2
  clear s2
  go_wp2_with fail
  refine (small_w w0 _ P M T _ b2 blk0 mc (o + 4) v4 HS2.out HCv4.out HRv4.out (by have := HL.out; simp only [List.length_append, beW_len]; omega)).mono ?_
  rintro e w3 (⟨k3, rfl, b3, s3⟩ | ⟨k3, rfl, hc⟩)
  rotate_left
  · exact ⟨rfl, .inr ⟨fun h => k3 ((Eq.mpr HOK.out h).2.2), rfl, hc⟩⟩
  have K3 := Lib.hid k3
  clear k3
  have HS3 := Lib.hid s3
  clear s3
  go_wp2_with fail
  refine (long_w w0 _ P M T _ b3 blk0 mc (o + 5) v5 HS3.out HCv5.out HRv5.out (by have := HL.out; simp only [List.length_append, beW_len]; omega)).mono ?_
  rintro e w4 ⟨rfl, b4, s4⟩
  have HS4 := Lib.hid s4
  clear s4
  go_wp2_with fail
  go_end0
  exact .inl ⟨Eq.mp HOK.out (⟨HPRE.out, K2.out, K3.out⟩), rfl, _, by simpa [List.append_assoc] using HS4.out⟩
theorem WrSt.alloc {w0 w : World} {P M : Nat} {T : TypeId} {out : List UInt8} {blk blk0 : Option Nat} {mc : Array Value} (h : WrSt w0 w P M T out blk blk0 mc) (o : Obj) : WrSt w0 (w.alloc o) P M T out blk blk0 mc :=
  ⟨h.pen.alloc o, h.new, h.msg.alloc o, h.ne, h.ty, h.chg.alloc o⟩
theorem WrSt.store {w0 w : World} {P M : Nat} {T : TypeId} {out : List UInt8} {blk blk0 : Option Nat} {mc : Array Value} (h : WrSt w0 w P M T out blk blk0 mc) (o : Nat) (u : Value) : WrSt w0 (w.setCell ⟨M, o, none⟩ u) P M T out blk blk0 (mc.setIfInBounds o u) :=
  ⟨h.pen.far (p := ⟨M, o, none⟩) h.ne.symm (h.pen.neT h.msg h.ty) u, h.new, h.msg.set_ o u, h.ne, h.ty, h.chg.setCell (.inl (.inr (.inl rfl))) u⟩
/-- Behind what was written out of a box beside the message. -/
theorem WrSt.side {w0 w w' : World} {P M X : Nat} {T : TypeId} {out out' : List UInt8} {blk blk' blk0 : Option Nat} {mc : Array Value} {x : Value} (h : WrSt w0 w P M T out blk blk0 mc) (hX : w0.heap.size ≤ X) (hne : X ≠ M) (h2 : WrSt w w' P X 3 out' blk' blk #[x]) : WrSt w0 w' P M T out' blk' blk0 mc := by
  refine ⟨h2.pen, ?_, h.msg.chg h2.chg fun q => ?_, h.ne, h.ty, h.chg.trans h2.chg fun i hi he => ?_⟩
  · rcases h2.new with e | ⟨g, e, hg⟩
    · rw [e]; exact h.new
    · exact .inr ⟨g, e, Nat.le_trans h.chg.size hg⟩
  · rcases q with q | q | q
    · exact h.ne q
    · exact hne q.symm
    · exact h.pen.neT h.msg h.ty q.symm
  · rcases he with e | e | e
    · exact .inl e
    · omega
    · rcases h.new with q | ⟨g, q, hg⟩
      · rw [← q]; exact .inr (.inr e)
      · rw [q] at e; injection e with e; omega
/-- A breakpoint's kind, as it is written. -/
def kindB (k : Int) : Int := if k = -1 then 255 else k
theorem set_same {mc : Array Value} {o : Nat} {u : Value} (h : mc[o]? = some u) : mc.setIfInBounds o u = mc := by
  obtain ⟨ho, he⟩ := Array.getElem?_eq_some_iff.1 h
  rw [← he]
  simp [Array.setIfInBounds, ho]
theorem set_back {mc : Array Value} {o : Nat} {a u : Value} (h : mc[o]? = some u) : (mc.setIfInBounds o a).setIfInBounds o u = mc := by
  rw [Array.setIfInBounds_setIfInBounds]
  exact set_same h
theorem point_w (w0 w : World) (P M : Nat) (T : TypeId) (out : List UInt8) (blk blk0 : Option Nat) (mc : Array Value) (o : Nat) (v0 v1 v2 : Int) (h : WrSt w0 w P M T out blk blk0 mc) (h0 : mc[o]? = some (.int .i64 v0)) (h1 : mc[o + 1]? = some (.int .i64 v1)) (h2 : mc[o + 2]? = some (.int .i64 v2)) (r0 : (-9223372036854775808 ≤ v0 ∧ v0 ≤ 9223372036854775807)) (r2 : (-9223372036854775808 ≤ v2 ∧ v2 ≤ 9223372036854775807)) (hl : out.length ≤ 900000) :
    Calls Try.prog 58 #[.pointer (some ⟨P, 0, none⟩), .pointer (some ⟨M, o, none⟩)] w (WrPost w0 P M T out (beW v0 1 ++ beW (kindB v1) 1 ++ beW v2 8) ((0 ≤ v0 ∧ v0 ≤ 255) ∧ (-1 ≤ v1 ∧ v1 ≤ 254)) blk0 mc) := by
  have H0 := Lib.hid h0
  have H1 := Lib.hid h1
  have H2 := Lib.hid h2
  have HR2 := Lib.hid r2
  have HL := Lib.hid hl
  have HS0 := Lib.hid h
  have K0 := Lib.hid (small_w w0 w P M T out blk blk0 mc o v0 h h0 r0 (by omega))
  obtain ⟨ok, hok⟩ : ∃ ok : Prop, ((0 ≤ v0 ∧ v0 ≤ 255) ∧ (-1 ≤ v1 ∧ v1 ≤ 254)) = ok := ⟨_, rfl⟩
  rw [hok]
  have HOK := Lib.hid hok
  obtain ⟨add, hadd⟩ : ∃ add, beW v0 1 ++ beW (kindB v1) 1 ++ beW v2 8 = add := ⟨_, rfl⟩
  rw [hadd]
  have HADD := Lib.hid hadd
  clear h h0 h1 h2 r0 r2 hl hok hadd
  go_enter Try.func58, Try.ntmps58
  go_wp2_with fail
  refine K0.out.mono ?_
  rintro e w1 (⟨k1, rfl, b1, s1⟩ | ⟨k1, rfl, hc⟩)
  rotate_left
  · exact ⟨rfl, .inr ⟨fun h => k1 (Eq.mpr HOK.out h).1, rfl, hc⟩⟩
  have K1 := Lib.hid k1
  clear k1
  have d1 : w1.cell? ⟨M, o + 1, none⟩ = some (.int .i64 v1) := (s1.msg.cell _).trans H1.out
  obtain ⟨wx, hwx⟩ : ∃ wx, w1.alloc (.cells #[.int .i64 v1] 3) = wx := ⟨_, rfl⟩
  obtain ⟨X, hXe⟩ : ∃ X, w1.heap.size = X := ⟨_, rfl⟩
  have sx : WrSt w0 wx P M T (out ++ beW v0 1) b1 blk0 mc := by rw [← hwx]; exact s1.alloc _
  have bX : Blk wx X 3 #[.int .i64 v1] := by rw [← hwx]; exact Blk.last w1 _ _ hXe
  have x1 : X ≠ P := by rw [← hXe]; exact Nat.ne_of_gt s1.pen.lt
  have x2 : X ≠ M := by rw [← hXe]; exact Nat.ne_of_gt s1.msg.lt
  have x4 : w0.heap.size ≤ X := by rw [← hXe]; exact s1.chg.size
  have e1 : wx.cell? ⟨X, 0, none⟩ = some (.int .i64 v1) := (bX.cell 0).trans rfl
  have z1 := bX.frozen 0
  have HSX := Lib.hid sx
  have HBX := Lib.hid bX
  have HW := Lib.hid (And.intro hwx hXe)
  have HX := Lib.hid (And.intro x1 (And.intro x2 x4))
  clear s1 sx bX x1 x2 x4 hwx hXe
  go_upto_region 2 with (fail)
  rw [HW.out.1, HW.out.2]
  by_cases hk : -1 ≤ v1 ∧ v1 ≤ 254
  rotate_left
  · have HK := Lib.hid hk
    have HG := Lib.hid HSX.out.chg
    by_cases g1 : -1 ≤ v1
    · have g2 : ¬ v1 ≤ 254 := fun h => hk ⟨g1, h⟩
      clear hk
      go_wp2_with fail
      try rw [decide_eq_false g2]
      refine (check_no _).mono ?_
      rintro e w9 ⟨rfl, rfl⟩
      exact ⟨rfl, .inr ⟨fun h => HK.out (Eq.mpr HOK.out h).2, rfl, HG.out⟩⟩
    · clear hk
      go_wp2_with fail
      try rw [decide_eq_false g1]
      refine (check_no _).mono ?_
      rintro e w9 ⟨rfl, rfl⟩
      exact ⟨rfl, .inr ⟨fun h => HK.out (Eq.mpr HOK.out h).2, rfl, HG.out⟩⟩
  have HK := Lib.hid hk
  obtain ⟨g1, g2⟩ := hk
  by_cases hm : v1 = -1
  · subst hm
    go_wp2_with fail
    refine (check_yes _).mono ?_
    rintro e w9 ⟨rfl, rfl⟩
    have s3 : WrSt w9 (w9.setCell ⟨X, 0, none⟩ (.int .i64 255)) P X 3 (out ++ beW v0 1) b1 b1 #[.int .i64 255] := ⟨HSX.out.pen.far (p := ⟨X, 0, none⟩) HX.out.1.symm (HSX.out.pen.neT HBX.out (by decide)) _, .inl rfl, HBX.out.set_ 0 _, HX.out.1, by decide, (Chg.refl _ w9).setCell (.inl (.inr (.inl rfl))) _⟩
    have KS := Lib.hid (small_w _ _ P X 3 _ b1 b1 _ 0 255 s3 rfl (by decide) (by have := HL.out; simp only [List.length_append, beW_len]; omega))
    have HV := Lib.hid (show (0 : Int) ≤ 255 ∧ 255 ≤ (255 : Int) by decide)
    clear s3
    go_wp2_with fail
    refine KS.out.mono ?_
    rintro e w2 (⟨_, rfl, b2, s2⟩ | ⟨k2, _⟩)
    rotate_left
    · exact absurd HV.out k2
    have sm := HSX.out.side HX.out.2.2 HX.out.2.1 s2
    have b2X := s2.msg
    have f1 : w2.cell? ⟨X, 0, none⟩ = some (.int .i64 255) := (b2X.cell 0).trans rfl
    have f2 : ∀ u, (w2.setCell ⟨M, o + 1, none⟩ u).cell? ⟨X, 0, none⟩ = some (.int .i64 255) := fun u => ((b2X.far (p := ⟨M, o + 1, none⟩) HX.out.2.1 u).cell 0).trans rfl
    have f3 : w2.cell? ⟨M, o + 1, none⟩ = some (.int .i64 (-1)) := (sm.msg.cell _).trans H1.out
    have f4 := sm.msg.frozen (o + 1)
    have f5 := (sm.store (o + 1) (.int .i64 255)).msg.frozen (o + 1)
    have f6 : (w2.setCell ⟨M, o + 1, none⟩ (.int .i64 255)).cell? ⟨M, o + 1, none⟩ = some (.int .i64 255) := World.cell?_setCell_same' _ _ _ (by rw [f3]; rfl)
    have s4 := (sm.store (o + 1) (.int .i64 255)).store (o + 1) (.int .i64 (-1))
    rw [set_back H1.out] at s4
    have HS4 := Lib.hid s4
    clear s2 sm s4 b2X
    go_wp2_with fail
    refine (long_w w0 _ P M T _ b2 blk0 mc (o + 2) v2 HS4.out H2.out HR2.out (by have := HL.out; simp only [List.length_append, beW_len]; omega)).mono ?_
    rintro e w5 ⟨rfl, b5, s5⟩
    have HS5 := Lib.hid s5
    clear s5
    go_wp2_with fail
    go_end0
    refine .inl ⟨Eq.mp HOK.out ⟨K1.out, HK.out⟩, rfl, b5, ?_⟩
    rw [← HADD.out]
    simpa [kindB, List.append_assoc] using HS5.out
  have HM := Lib.hid hm
  have hmb : (v1 == -1) = false := by simpa using hm
  go_wp2_with fail
  refine (check_yes _).mono ?_
  rintro e w9 ⟨rfl, rfl⟩
  have s3 : WrSt w9 w9 P X 3 (out ++ beW v0 1) b1 b1 #[.int .i64 v1] := ⟨HSX.out.pen, .inl rfl, HBX.out, HX.out.1, by decide, Chg.refl _ w9⟩
  have KS := Lib.hid (small_w _ _ P X 3 _ b1 b1 _ 0 v1 s3 rfl (by have := HK.out; omega) (by have := HL.out; simp only [List.length_append, beW_len]; omega))
  have HV := Lib.hid (show (0 : Int) ≤ v1 ∧ v1 ≤ (255 : Int) by have h1 := HK.out; have h2 := HM.out; constructor <;> omega)
  clear s3
  go_wp2_with fail
  refine KS.out.mono ?_
  rintro e w2 (⟨_, rfl, b2, s2⟩ | ⟨k2, _⟩)
  rotate_left
  · exact absurd HV.out k2
  have sm := HSX.out.side HX.out.2.2 HX.out.2.1 s2
  have b2X := s2.msg
  have f1 : w2.cell? ⟨X, 0, none⟩ = some (.int .i64 v1) := (b2X.cell 0).trans rfl
  have f2 : ∀ u, (w2.setCell ⟨M, o + 1, none⟩ u).cell? ⟨X, 0, none⟩ = some (.int .i64 v1) := fun u => ((b2X.far (p := ⟨M, o + 1, none⟩) HX.out.2.1 u).cell 0).trans rfl
  have f3 : w2.cell? ⟨M, o + 1, none⟩ = some (.int .i64 v1) := (sm.msg.cell _).trans H1.out
  have f4 := sm.msg.frozen (o + 1)
  have h255 : ¬ v1 = 255 := by have := HK.out; omega
  have h255b : (v1 == 255) = false := by simpa using h255
  have s4 := sm.store (o + 1) (.int .i64 v1)
  rw [set_same H1.out] at s4
  have HS4 := Lib.hid s4
  clear s2 sm s4 b2X
  go_wp2_with fail
  refine (long_w w0 _ P M T _ b2 blk0 mc (o + 2) v2 HS4.out H2.out HR2.out (by have := HL.out; simp only [List.length_append, beW_len]; omega)).mono ?_
  rintro e w5 ⟨rfl, b5, s5⟩
  have HS5 := Lib.hid s5
  clear s5
  go_wp2_with fail
  go_end0
  refine .inl ⟨Eq.mp HOK.out ⟨K1.out, HK.out⟩, rfl, b5, ?_⟩
  rw [← HADD.out]
  rw [kindB, if_neg HM.out]; simpa [List.append_assoc] using HS5.out
end Go.Proofs.Ytnbcjjgilndlaaa
/- Messages: a model's text written, or it is ended. Helper. -/
namespace Go.Proofs.Ytnbcjjgilndlaaa
open Go.RowKit
set_option linter.unusedVariables false
set_option linter.unusedSimpArgs false
set_option maxRecDepth 100000
set_option maxHeartbeats 3200000
theorem Wrote.app {w w6 : World} {P n m c c2 : Nat} {A A2 : Option Addr} {out md : List UInt8} {blk SB2 : Option Nat} (h : PenW w P out blk) (hn : out.length = n) (hm : md.length = m)
    (ho : Own w6 5 1 (.slice A2 (n + m) c2) (n + m) (bcells out ++ bcells md) SB2) (hb : Blk w6 P 76 #[.slice A n c, .bool false]) (hc : Chg (fun k => some k = blk) w.drew w6) (ha : SB2 = blk ∨ SB2 = some w.drew.heap.size) :
    Wrote w (w6.setCell ⟨P, 0, none⟩ (.slice A2 (n + m) c2)) P blk (out ++ md) SB2 := by
  have hl : (out ++ md).length = n + m := by rw [← hn, ← hm]; simp
  have hcell : bcells (out ++ md) = bcells out ++ bcells md := by simp [bcells]
  have hne : SB2 ≠ some P := by
    rcases ha with e | e
    · rw [e]; exact h.ne
    · rw [e]; intro q; injection q with q; have := h.lt; simp at q; omega
  refine ⟨⟨A2, c2, by rw [hl]; exact hb.set_ 0 _, by rw [hl, hcell]; exact ho.kept fun g hg => Below.heap_setCell _ _ _ _ (fun e => hne (by rw [hg, e]))⟩, Chg.setCell (((Chg.refl _ w).drew).trans hc fun i hi he => .inr he) (.inl (.inl rfl)) _, ?_⟩
  rcases ha with e | e
  · exact .inl e
  · exact .inr ⟨_, e, by simp⟩
theorem text_w (w0 w : World) (P M : Nat) (T : TypeId) (out : List UInt8) (blk blk0 : Option Nat) (mc : Array Value) (o : Nat) (A : Option Addr) (n c : Nat) (md : List UInt8) (h : WrSt w0 w P M T out blk blk0 mc) (ho : mc[o]? = some (.slice A n c)) (hb : BytesAt w A md) (hn : md.length = n) (hm : n ≤ 100000) (hl : out.length ≤ 900000) :
    Calls Try.prog 53 #[.pointer (some ⟨P, 0, none⟩), .pointer (some ⟨M, o, none⟩)] w (WrPost w0 P M T out md (1 ≤ n ∧ n ≤ 4091) blk0 mc) := by
  obtain ⟨A0, c0, hp, hown⟩ := h.pen
  obtain ⟨L, hL⟩ : ∃ L, out.length = L := ⟨_, rfl⟩
  rw [hL] at hp hown hl
  have p0 : w.cell? ⟨P, 0, none⟩ = some (.slice A0 L c0) := (hp.cell 0).trans rfl
  have p1 : w.cell? ⟨P, 1, none⟩ = some (.bool false) := (hp.cell 1).trans rfl
  have m0 : w.cell? ⟨M, o, none⟩ = some (.slice A n c) := (h.msg.cell o).trans ho
  obtain ⟨i0, hi0, hz0, hz1, hz2⟩ := info_parts infoU8
  have HL1 := Lib.hid hi0
  have HL2 := Lib.hid hz0
  have HL3 := Lib.hid hz1
  have HL4 := Lib.hid hz2
  have HP := Lib.hid hp
  have HO := Lib.hid hown
  have HS := Lib.hid h
  have HB := Lib.hid hb
  have HN := Lib.hid (And.intro hn (And.intro hm (And.intro hl hL)))
  have HMO := Lib.hid ho
  obtain ⟨ok, hok⟩ : ∃ ok : Prop, (1 ≤ n ∧ n ≤ 4091) = ok := ⟨_, rfl⟩
  rw [hok]
  have HOK := Lib.hid hok
  have HNE := Lib.hid h.pen.ne
  have HMN := Lib.hid (h.pen.neT h.msg h.ty)
  clear hi0 hz0 hz1 hz2 hp hown h hb hn hm hl hL ho hok
  go_enter Try.func53, Try.ntmps53
  go_upto_region 2 with (fail)
  go_region_law (refine step_append_at _ (by rfl) _ _ _ (by rfl) 5 i0 _ 1 1 Try.underlying22 HL1.out HL2.out HL3.out HL4.out rfl (by omega) _ L (bcells out) blk (by rfl) HO.out _ n c (bcells md) (by rfl) (by rw [bcells_length, HN.out.1, Nat.mul_one]) HB.out (bcells_one md) (by have := HN.out; simp only [maxLen]; omega) (by have := HN.out; omega) ?_; intro A2 c2 w6 SB2 hown2 hchg hat2; have hb6 : Blk w6 P 76 _ := HP.out.drew.chg hchg (fun h => HNE.out h.symm); have hc6 : w6.cell? ⟨P, 0, none⟩ = some (.slice A0 L c0) := (hb6.cell 0).trans rfl; have hg6 := hb6.frozen 0)
  all_goals
    obtain ⟨w7, hw7⟩ : ∃ w7, w6.setCell ⟨P, 0, none⟩ (.slice A2 (L + n) c2) = w7 := ⟨_, rfl⟩
    have hs7 := HS.out.wrote (Wrote.app HS.out.pen HN.out.2.2.2 HN.out.1 hown2 hb6 hchg hat2)
    rw [hw7] at hs7
    have m7 : w7.cell? ⟨M, o, none⟩ = some (.slice A n c) := (hs7.msg.cell o).trans HMO.out
    have HS7 := Lib.hid hs7
    have HW7 := Lib.hid hw7
    clear hown2 hchg hat2 hb6 hs7 hw7 m0
    go_upto_region 3 with (fail)
    rw [HW7.out]
    clear hc6 hg6 p0 p1
    by_cases h1 : 1 ≤ n
    · have g1 : (1 : Int) ≤ (n : Int) := by omega
      by_cases h2 : n ≤ 4091
      · have g2 : (n : Int) ≤ 4091 := by omega
        go_wp2_with fail
        refine (check_yes _).mono ?_
        rintro e w9 ⟨rfl, rfl⟩
        go_wp2_with fail
        go_end0
        exact .inl ⟨Eq.mp HOK.out ⟨h1, h2⟩, rfl, _, HS7.out⟩
      · have g2 : ¬ (n : Int) ≤ 4091 := by omega
        have g3 : decide ((n : Int) ≤ 4091) = false := decide_eq_false g2
        go_wp2_with fail
        try rw [g3]
        refine (check_no _).mono ?_
        rintro e w9 ⟨rfl, rfl⟩
        exact ⟨rfl, .inr ⟨fun q => h2 (Eq.mpr HOK.out q).2, rfl, HS7.out.chg⟩⟩
    · have g1 : ¬ (1 : Int) ≤ (n : Int) := by omega
      go_wp2_with fail
      refine (check_no _).mono ?_
      rintro e w9 ⟨rfl, rfl⟩
      exact ⟨rfl, .inr ⟨fun q => h1 (Eq.mpr HOK.out q).1, rfl, HS7.out.chg⟩⟩
end Go.Proofs.Ytnbcjjgilndlaaa
