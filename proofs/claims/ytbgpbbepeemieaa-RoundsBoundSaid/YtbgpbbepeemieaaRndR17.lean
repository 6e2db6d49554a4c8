/- See's region 17 (the report) as a theorem of its own. Helper. -/
import Derived.Test.YtbgpbbepeemieaaRndBegin
import Derived.Test.YtbgpbbepeemieaaRegE
namespace Go.Proofs.Ytbgpbbepeemieaa
open Go.RowKit
set_option linter.unusedVariables false
set_option linter.unusedSimpArgs false
def findRegion (n : Nat) : Code → Option Code
  | .region k ops d => if k = n then some (.region k ops d) else none
  | .loop c => findRegion n c
  | .seq a b => match findRegion n a with
    | some c => some c
    | none => findRegion n b
  | .block _ c => findRegion n c
  | .scope c => findRegion n c
  | .cond _ a b => match findRegion n a with
    | some c => some c
    | none => findRegion n b
  | _ => none
noncomputable def code17 : Code := ((Try.f16.body.bind (findRegion 17)).getD .skip)
set_option maxRecDepth 1000000 in
set_option maxHeartbeats 40000000 in
theorem region17 {s2 s3 s4 s5 s7 s8 s9 s10 s11 s12 s13 s14 s15 s16 s17 s18 s19 s20 s21 s22 s23 s24 s25 s26 s27 s28 s29 s30 s31 s32 s33 s34 s35 s36 s37 s38 s39 s40 s41 s42 s43 s44 s45 s46 s47 s48 s49 s50 s51 s52 s53 s54 s55 s56 s57 s58 s59 s60 s61 s62 s63 s64 s65 s66 s67 s68 s69 s70 s71 s72 s73 s74 s75 s76 s77 s78 s79 s80 s81 s82 s83 s84 s85 s86 s87 s88 s89 s90 s91 s92 s93 s94 s95 s96 s97 s98 s99 s100 s101 s102 s103 s104 s105 s106 s107 s108 s109 s110 s111 s112 s113 s114 s115 s116 s117 s118 s119 s120 s121 s122 s123 s124 s125 s126 s127 s128 s129 s130 s131 s132 s133 s134 s135 s136 s137 s138 s139 s140 s141 s142 s143 s144 s145 s146 s147 s148 s149 s150 s151 s152 s153 s154 s155 : Value} (R C S L : Nat) (r : Rn) (p kb : Nat) (k : Ky) (wc : World) (hm : RM wc R C S L r) (hp : p ≤ r.n) (k0 : wc.cell? ⟨kb, 0, none⟩ = some (.int .i64 k.T)) (k1 : wc.cell? ⟨kb, 1, none⟩ = some (.int .i64 k.O)) (k2 : wc.cell? ⟨kb, 2, none⟩ = some (.int .i64 k.S)) (Q : Exit → Act → World → Prop)
    (hK : ∀ (t112 t113 t114 t115 t116 t117 t118 t119 t120 t121 t122 t123 t124 t125 t126 t127 t128 : Value) (wx : World), (RM wx R C S L { r with rep := r.rep.min (k.min (r.least p)) } ∧ Chg (Four R C S L) wc wx) → Q .normal ⟨#[.pointer (some ⟨R, 0, none⟩), .int .i64 (p : Int), s2, s3, s4, s5, .pointer (some ⟨kb, 0, none⟩), s7, s8, s9, s10, s11, s12, s13, s14, s15, s16, s17, s18, s19, s20, s21, s22, s23, s24, s25, s26, s27, s28, s29, s30, s31, s32, s33, s34, s35, s36, s37, s38, s39, s40, s41, s42, s43, s44, s45, s46, s47, s48, s49, s50, s51, s52, s53, s54, s55, s56, s57, s58, s59, s60, s61, s62, s63, s64, s65, s66, s67, s68, s69, s70, s71, s72, s73, s74, s75, s76, s77, s78, s79, s80, s81, s82, s83, s84, s85, s86, s87, s88, s89, s90, s91, s92, s93, s94, s95, s96, s97, s98, s99, s100, s101, s102, s103, s104, s105, s106, s107, s108, s109, s110, s111, t112, t113, t114, t115, t116, t117, t118, t119, t120, t121, t122, t123, t124, t125, t126, t127, t128, s129, s130, s131, s132, s133, s134, s135, s136, s137, s138, s139, s140, s141, s142, s143, s144, s145, s146, s147, s148, s149, s150, s151, s152, s153, s154, s155], []⟩ wx) :
    Code.wp Try.prog code17 Q ⟨#[.pointer (some ⟨R, 0, none⟩), .int .i64 (p : Int), s2, s3, s4, s5, .pointer (some ⟨kb, 0, none⟩), s7, s8, s9, s10, s11, s12, s13, s14, s15, s16, s17, s18, s19, s20, s21, s22, s23, s24, s25, s26, s27, s28, s29, s30, s31, s32, s33, s34, s35, s36, s37, s38, s39, s40, s41, s42, s43, s44, s45, s46, s47, s48, s49, s50, s51, s52, s53, s54, s55, s56, s57, s58, s59, s60, s61, s62, s63, s64, s65, s66, s67, s68, s69, s70, s71, s72, s73, s74, s75, s76, s77, s78, s79, s80, s81, s82, s83, s84, s85, s86, s87, s88, s89, s90, s91, s92, s93, s94, s95, s96, s97, s98, s99, s100, s101, s102, s103, s104, s105, s106, s107, s108, s109, s110, s111, s112, s113, s114, s115, s116, s117, s118, s119, s120, s121, s122, s123, s124, s125, s126, s127, s128, s129, s130, s131, s132, s133, s134, s135, s136, s137, s138, s139, s140, s141, s142, s143, s144, s145, s146, s147, s148, s149, s150, s151, s152, s153, s154, s155], []⟩ wc := by
  suffices hs : Code.wp Try.prog code17 (Exit.then (fun a' w' => ∃ (t112 t113 t114 t115 t116 t117 t118 t119 t120 t121 t122 t123 t124 t125 t126 t127 t128 : Value), a' = ⟨#[.pointer (some ⟨R, 0, none⟩), .int .i64 (p : Int), s2, s3, s4, s5, .pointer (some ⟨kb, 0, none⟩), s7, s8, s9, s10, s11, s12, s13, s14, s15, s16, s17, s18, s19, s20, s21, s22, s23, s24, s25, s26, s27, s28, s29, s30, s31, s32, s33, s34, s35, s36, s37, s38, s39, s40, s41, s42, s43, s44, s45, s46, s47, s48, s49, s50, s51, s52, s53, s54, s55, s56, s57, s58, s59, s60, s61, s62, s63, s64, s65, s66, s67, s68, s69, s70, s71, s72, s73, s74, s75, s76, s77, s78, s79, s80, s81, s82, s83, s84, s85, s86, s87, s88, s89, s90, s91, s92, s93, s94, s95, s96, s97, s98, s99, s100, s101, s102, s103, s104, s105, s106, s107, s108, s109, s110, s111, t112, t113, t114, t115, t116, t117, t118, t119, t120, t121, t122, t123, t124, t125, t126, t127, t128, s129, s130, s131, s132, s133, s134, s135, s136, s137, s138, s139, s140, s141, s142, s143, s144, s145, s146, s147, s148, s149, s150, s151, s152, s153, s154, s155], []⟩ ∧ (RM w' R C S L { r with rep := r.rep.min (k.min (r.least p)) } ∧ Chg (Four R C S L) wc w')) (fun _ _ _ => False)) ⟨#[.pointer (some ⟨R, 0, none⟩), .int .i64 (p : Int), s2, s3, s4, s5, .pointer (some ⟨kb, 0, none⟩), s7, s8, s9, s10, s11, s12, s13, s14, s15, s16, s17, s18, s19, s20, s21, s22, s23, s24, s25, s26, s27, s28, s29, s30, s31, s32, s33, s34, s35, s36, s37, s38, s39, s40, s41, s42, s43, s44, s45, s46, s47, s48, s49, s50, s51, s52, s53, s54, s55, s56, s57, s58, s59, s60, s61, s62, s63, s64, s65, s66, s67, s68, s69, s70, s71, s72, s73, s74, s75, s76, s77, s78, s79, s80, s81, s82, s83, s84, s85, s86, s87, s88, s89, s90, s91, s92, s93, s94, s95, s96, s97, s98, s99, s100, s101, s102, s103, s104, s105, s106, s107, s108, s109, s110, s111, s112, s113, s114, s115, s116, s117, s118, s119, s120, s121, s122, s123, s124, s125, s126, s127, s128, s129, s130, s131, s132, s133, s134, s135, s136, s137, s138, s139, s140, s141, s142, s143, s144, s145, s146, s147, s148, s149, s150, s151, s152, s153, s154, s155], []⟩ wc by
    refine Code.wp_mono (fun e a w h => ?_) hs
    cases e with
    | normal =>
      obtain ⟨t112, t113, t114, t115, t116, t117, t118, t119, t120, t121, t122, t123, t124, t125, t126, t127, t128, rfl, hp⟩ := h
      exact hK t112 t113 t114 t115 t116 t117 t118 t119 t120 t121 t122 t123 t124 t125 t126 t127 t128 w hp
    | _ => exact False.elim h
  clear hK
  conv => arg 2; whnf
  have f4 : wc.cell? ⟨R, 4, none⟩ = some (.slice (some ⟨L, 0, none⟩) (r.n + 1) (r.n + 1)) := hm.f4
  obtain ⟨l0, l1, l2⟩ := hm.leastAt hp
  obtain ⟨r0, r1, r2⟩ := hm.fr
  have g2' : (p : Int) < (r.n : Int) + 1 := by omega
  have kl1 := Lib.hid (fun W => lesser_any k (r.least p) W)
  have kl2 := Lib.hid (fun W => lesser_any r.rep (k.min (r.least p)) W)
  have hn := hm.n16
  have HM := Lib.hid hm
  clear hm
  have hss : ∀ W, Nw wc W → Nw wc W ∧ W.cell? ⟨R, 4, none⟩ = some (.slice (some ⟨L, 0, none⟩) (r.n + 1) (r.n + 1)) ∧ W.cell? ⟨L, p * 3, none⟩ = some (.int .i64 (r.least p).T) ∧ W.cell? ⟨L, p * 3 + 1, none⟩ = some (.int .i64 (r.least p).O) ∧ W.cell? ⟨L, p * 3 + 2, none⟩ = some (.int .i64 (r.least p).S) ∧ W.cell? ⟨R, 5, none⟩ = some (.int .i64 r.rep.T) ∧ W.cell? ⟨R, 6, none⟩ = some (.int .i64 r.rep.O) ∧ W.cell? ⟨R, 7, none⟩ = some (.int .i64 r.rep.S) ∧ W.cell? ⟨kb, 0, none⟩ = some (.int .i64 k.T) ∧ W.cell? ⟨kb, 1, none⟩ = some (.int .i64 k.O) ∧ W.cell? ⟨kb, 2, none⟩ = some (.int .i64 k.S) := fun W h => ⟨h, h.cell f4, h.cell l0, h.cell l1, h.cell l2, h.cell r0, h.cell r1, h.cell r2, h.cell k0, h.cell k1, h.cell k2⟩
  have HSS := Lib.hid hss
  clear hss f4 l0 l1 l2 r0 r1 r2 k0 k1 k2
  refine wp_region_E (fun W => Nw wc W ∧ W.cell? ⟨R, 4, none⟩ = some (.slice (some ⟨L, 0, none⟩) (r.n + 1) (r.n + 1)) ∧ W.cell? ⟨L, p * 3, none⟩ = some (.int .i64 (r.least p).T) ∧ W.cell? ⟨L, p * 3 + 1, none⟩ = some (.int .i64 (r.least p).O) ∧ W.cell? ⟨L, p * 3 + 2, none⟩ = some (.int .i64 (r.least p).S) ∧ W.cell? ⟨R, 5, none⟩ = some (.int .i64 r.rep.T) ∧ W.cell? ⟨R, 6, none⟩ = some (.int .i64 r.rep.O) ∧ W.cell? ⟨R, 7, none⟩ = some (.int .i64 r.rep.S) ∧ W.cell? ⟨kb, 0, none⟩ = some (.int .i64 k.T) ∧ W.cell? ⟨kb, 1, none⟩ = some (.int .i64 k.O) ∧ W.cell? ⟨kb, 2, none⟩ = some (.int .i64 k.S)) 17 (by kernel_rfl) ?_
  have hS := HSS.out wc.drew (Nw.refl wc).drew
  refine wpAnyE_take (i := 0) (v := .pointer (some ⟨R, 0, none⟩)) rfl (by kernel_rfl) (by kernel_rfl) (by kernel_rfl) (by kernel_rfl) (fun _ _ _ h => h) (by rfl) (fun u hu => ?_) hS ?_
  · obtain ⟨_, e0, e1, e2, e3, e4, e5, e6, e7, e8, e9⟩ := hu
    go_simp
  try simp only [Act.put, List.setIfInBounds_toArray, List.set_cons_zero, List.set_cons_succ]
  refine wpAnyE_take (i := 1) (v := .pointer (some ⟨R, 0, none⟩)) rfl (by kernel_rfl) (by kernel_rfl) (by kernel_rfl) (by kernel_rfl) (fun _ _ _ h => h) (by rfl) (fun u hu => ?_) hS ?_
  · obtain ⟨_, e0, e1, e2, e3, e4, e5, e6, e7, e8, e9⟩ := hu
    go_simp
  try simp only [Act.put, List.setIfInBounds_toArray, List.set_cons_zero, List.set_cons_succ]
  refine wpAnyE_take (i := 2) (v := .pointer (some ⟨R, 0, none⟩)) rfl (by kernel_rfl) (by kernel_rfl) (by kernel_rfl) (by kernel_rfl) (fun _ _ _ h => h) (by rfl) (fun u hu => ?_) hS ?_
  · obtain ⟨_, e0, e1, e2, e3, e4, e5, e6, e7, e8, e9⟩ := hu
    go_simp
  try simp only [Act.put, List.setIfInBounds_toArray, List.set_cons_zero, List.set_cons_succ]
  refine wpAnyE_take (i := 3) (v := .pointer (some ⟨R, 5, none⟩)) rfl (by kernel_rfl) (by kernel_rfl) (by kernel_rfl) (by kernel_rfl) (fun _ _ _ h => h) (by rfl) (fun u hu => ?_) hS ?_
  · obtain ⟨_, e0, e1, e2, e3, e4, e5, e6, e7, e8, e9⟩ := hu
    go_simp
  try simp only [Act.put, List.setIfInBounds_toArray, List.set_cons_zero, List.set_cons_succ]
  refine wpAnyE_take (i := 4) (v := .agg #[.int .i64 r.rep.T, .int .i64 r.rep.O, .int .i64 r.rep.S]) rfl (by kernel_rfl) (by kernel_rfl) (by kernel_rfl) (by kernel_rfl) (fun _ _ _ h => h) (by rfl) (fun u hu => ?_) hS ?_
  · obtain ⟨_, e0, e1, e2, e3, e4, e5, e6, e7, e8, e9⟩ := hu
    go_simp
  try simp only [Act.put, List.setIfInBounds_toArray, List.set_cons_zero, List.set_cons_succ]
  refine wpAnyE_take (i := 5) (v := .agg #[.int .i64 k.T, .int .i64 k.O, .int .i64 k.S]) rfl (by kernel_rfl) (by kernel_rfl) (by kernel_rfl) (by kernel_rfl) (fun _ _ _ h => h) (by rfl) (fun u hu => ?_) hS ?_
  · obtain ⟨_, e0, e1, e2, e3, e4, e5, e6, e7, e8, e9⟩ := hu
    go_simp
  try simp only [Act.put, List.setIfInBounds_toArray, List.set_cons_zero, List.set_cons_succ]
  refine wpAnyE_take (i := 6) (v := .pointer (some ⟨R, 0, none⟩)) rfl (by kernel_rfl) (by kernel_rfl) (by kernel_rfl) (by kernel_rfl) (fun _ _ _ h => h) (by rfl) (fun u hu => ?_) hS ?_
  · obtain ⟨_, e0, e1, e2, e3, e4, e5, e6, e7, e8, e9⟩ := hu
    go_simp
  try simp only [Act.put, List.setIfInBounds_toArray, List.set_cons_zero, List.set_cons_succ]
  refine wpAnyE_take (i := 7) (v := .pointer (some ⟨R, 0, none⟩)) rfl (by kernel_rfl) (by kernel_rfl) (by kernel_rfl) (by kernel_rfl) (fun _ _ _ h => h) (by rfl) (fun u hu => ?_) hS ?_
  · obtain ⟨_, e0, e1, e2, e3, e4, e5, e6, e7, e8, e9⟩ := hu
    go_simp
  try simp only [Act.put, List.setIfInBounds_toArray, List.set_cons_zero, List.set_cons_succ]
  refine wpAnyE_take (i := 8) (v := .pointer (some ⟨R, 4, none⟩)) rfl (by kernel_rfl) (by kernel_rfl) (by kernel_rfl) (by kernel_rfl) (fun _ _ _ h => h) (by rfl) (fun u hu => ?_) hS ?_
  · obtain ⟨_, e0, e1, e2, e3, e4, e5, e6, e7, e8, e9⟩ := hu
    go_simp
  try simp only [Act.put, List.setIfInBounds_toArray, List.set_cons_zero, List.set_cons_succ]
  refine wpAnyE_take (i := 9) (v := .slice (some ⟨L, 0, none⟩) (r.n + 1) (r.n + 1)) rfl (by kernel_rfl) (by kernel_rfl) (by kernel_rfl) (by kernel_rfl) (fun _ _ _ h => h) (by rfl) (fun u hu => ?_) hS ?_
  · obtain ⟨_, e0, e1, e2, e3, e4, e5, e6, e7, e8, e9⟩ := hu
    go_simp
  try simp only [Act.put, List.setIfInBounds_toArray, List.set_cons_zero, List.set_cons_succ]
  refine wpAnyE_take (i := 10) (v := .int .i64 (p : Int)) rfl (by kernel_rfl) (by kernel_rfl) (by kernel_rfl) (by kernel_rfl) (fun _ _ _ h => h) (by rfl) (fun u hu => ?_) hS ?_
  · obtain ⟨_, e0, e1, e2, e3, e4, e5, e6, e7, e8, e9⟩ := hu
    go_simp
  try simp only [Act.put, List.setIfInBounds_toArray, List.set_cons_zero, List.set_cons_succ]
  refine wpAnyE_take (i := 11) (v := .pointer (some ⟨L, p * 3, none⟩)) rfl (by kernel_rfl) (by kernel_rfl) (by kernel_rfl) (by kernel_rfl) (fun _ _ _ h => h) (by rfl) (fun u hu => ?_) hS ?_
  · obtain ⟨_, e0, e1, e2, e3, e4, e5, e6, e7, e8, e9⟩ := hu
    go_simp
  try simp only [Act.put, List.setIfInBounds_toArray, List.set_cons_zero, List.set_cons_succ]
  refine wpAnyE_take (i := 12) (v := .agg #[.int .i64 (r.least p).T, .int .i64 (r.least p).O, .int .i64 (r.least p).S]) rfl (by kernel_rfl) (by kernel_rfl) (by kernel_rfl) (by kernel_rfl) (fun _ _ _ h => h) (by rfl) (fun u hu => ?_) hS ?_
  · obtain ⟨_, e0, e1, e2, e3, e4, e5, e6, e7, e8, e9⟩ := hu
    go_simp
  try simp only [Act.put, List.setIfInBounds_toArray, List.set_cons_zero, List.set_cons_succ]
  clear hS
  refine wpAnyE_step (i := 13) (by kernel_rfl) rfl (by rfl) fun K hK => ?_
  go_simp
  go_at_call 25
  refine (kl1.out _).mono ?_
  rintro e w7 ⟨rfl, b7⟩
  have n7 : Nw wc w7 := (Nw.drew (Nw.refl wc)).step b7
  refine hK _ _ (.inr (HSS.out w7 n7)) ?_
  try simp only [Act.put, List.setIfInBounds_toArray, List.set_cons_zero, List.set_cons_succ]
  refine wpAnyE_step (i := 14) (by kernel_rfl) rfl (by rfl) fun K hK => ?_
  go_simp
  go_at_call 25
  refine (kl2.out _).mono ?_
  rintro e w8 ⟨rfl, b8⟩
  have N8 := Lib.hid (n7.step b8)
  have H8 := Lib.hid (HM.out.new N8.out)
  refine hK _ _ (.inr (HSS.out w8 N8.out)) ?_
  try simp only [Act.put, List.setIfInBounds_toArray, List.set_cons_zero, List.set_cons_succ]
  have hS := HSS.out w8 N8.out
  refine wpAnyE_step (i := 15) (by kernel_rfl) rfl (by rfl) fun K hK => ?_
  go_simp
  refine hK _ _ (.inr hS) ?_
  try simp only [Act.put, List.setIfInBounds_toArray, List.set_cons_zero, List.set_cons_succ]
  refine wpAnyE_step (i := 16) (by kernel_rfl) rfl (by rfl) fun K hK => ?_
  go_simp
  refine hK _ _ (.inr hS) ?_
  try simp only [Act.put, List.setIfInBounds_toArray, List.set_cons_zero, List.set_cons_succ]
  clear hS
  obtain ⟨q0, q1, q2⟩ := H8.out.fr
  have y0 := H8.out.frz.1 5
  have y1 := H8.out.frz.1 6
  have y2 := H8.out.frz.1 7
  refine wpAnyE_step (i := 17) (by kernel_rfl) rfl (by rfl) fun K hK => ?_
  go_simp
  refine hK _ _ (.inl rfl) ?_
  try simp only [Act.put, List.setIfInBounds_toArray, List.set_cons_zero, List.set_cons_succ]
  refine wpAnyE_done (by kernel_rfl) ?_ _
  refine ⟨_, _, _, _, _, _, _, _, _, _, _, _, _, _, _, _, _, rfl, ?_⟩
  exact ⟨H8.out.setRep _, (((Chg.of_below N8.out (Nat.le_refl _) (Four R C S L)).setCell (p := ⟨R, 5, none⟩) (.inl (.inl rfl)) _).setCell (p := ⟨R, 6, none⟩) (.inl (.inl rfl)) _).setCell (p := ⟨R, 7, none⟩) (.inl (.inl rfl)) _⟩
end Go.Proofs.Ytbgpbbepeemieaa
