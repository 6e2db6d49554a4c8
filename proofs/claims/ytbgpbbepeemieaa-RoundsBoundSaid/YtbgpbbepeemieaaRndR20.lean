/- See's region 20 (the bound) as a theorem of its own. Helper. -/
import Derived.Test.YtbgpbbepeemieaaRndR17
import Derived.Test.YtbgpbbepeemieaaRegE
namespace Go.Proofs.Ytbgpbbepeemieaa
open Go.RowKit
set_option linter.unusedVariables false
set_option linter.unusedSimpArgs false
theorem RM.setBnd0 {w : World} {R C S L : Nat} {r : Rn} (h : RM w R C S L r) (k : Ky) : RM (((w.setCell ⟨R, 8, none⟩ (.int .i64 k.T)).setCell ⟨R, 9, none⟩ (.int .i64 k.O)).setCell ⟨R, 10, none⟩ (.int .i64 k.S)) R C S L { r with bnd := k } :=
  h.st_set ((((Chg.refl (fun k => k = R) w).setCell (p := ⟨R, 8, none⟩) (.inl rfl) _).setCell (p := ⟨R, 9, none⟩) (.inl rfl) _).setCell (p := ⟨R, 10, none⟩) (.inl rfl) _) (((h.st.set_ 8 _).set_ 9 _).set_ 10 _) rfl rfl rfl rfl h.nm h.hf
theorem RM.setIs {w : World} {R C S L : Nat} {r : Rn} (h : RM w R C S L r) : RM (w.setCell ⟨R, 11, none⟩ (.bool true)) R C S L { r with is := true } :=
  h.st_set (Chg.one (M := fun k => k = R) rfl _) (h.st.set_ 11 _) rfl rfl rfl rfl h.nm h.hf
noncomputable def code20 : Code := ((Try.f16.body.bind (findRegion 20)).getD .skip)
set_option maxRecDepth 1000000 in
set_option maxHeartbeats 40000000 in
theorem region20 {s1 s2 s3 s4 s5 s6 s7 s8 s9 s10 s11 s12 s13 s14 s15 s16 s17 s18 s19 s20 s21 s22 s23 s24 s25 s26 s27 s28 s29 s30 s31 s32 s33 s34 s35 s36 s37 s38 s39 s40 s41 s42 s43 s44 s45 s46 s47 s48 s49 s50 s51 s52 s53 s54 s55 s56 s57 s58 s59 s60 s61 s62 s63 s64 s65 s66 s67 s68 s69 s70 s71 s72 s73 s74 s75 s76 s77 s78 s79 s80 s81 s82 s83 s84 s85 s86 s87 s88 s89 s90 s91 s92 s93 s94 s95 s96 s97 s98 s99 s100 s101 s102 s103 s104 s105 s106 s107 s108 s109 s110 s111 s112 s113 s114 s115 s116 s117 s118 s119 s120 s121 s122 s123 s124 s125 s126 s127 s128 s129 s130 s131 s132 s133 s134 s135 s136 s137 s138 s139 s140 s141 s142 s143 s144 s145 s146 s147 s148 s149 s150 s151 s152 s153 s154 s155 : Value} (R C S L : Nat) (r : Rn) (wc : World) (hm : RM wc R C S L r) (Q : Exit → Act → World → Prop)
    (hK : ∀ (t139 t140 t141 t142 t143 t144 t145 t146 t147 t148 t149 t150 t151 t152 t153 t154 t155 : Value) (wx : World), (RM wx R C S L { r with bnd := r.rep.min (r.least 0), is := true } ∧ Chg (Four R C S L) wc wx) → Q .normal ⟨#[.pointer (some ⟨R, 0, none⟩), s1, s2, s3, s4, s5, s6, s7, s8, s9, s10, s11, s12, s13, s14, s15, s16, s17, s18, s19, s20, s21, s22, s23, s24, s25, s26, s27, s28, s29, s30, s31, s32, s33, s34, s35, s36, s37, s38, s39, s40, s41, s42, s43, s44, s45, s46, s47, s48, s49, s50, s51, s52, s53, s54, s55, s56, s57, s58, s59, s60, s61, s62, s63, s64, s65, s66, s67, s68, s69, s70, s71, s72, s73, s74, s75, s76, s77, s78, s79, s80, s81, s82, s83, s84, s85, s86, s87, s88, s89, s90, s91, s92, s93, s94, s95, s96, s97, s98, s99, s100, s101, s102, s103, s104, s105, s106, s107, s108, s109, s110, s111, s112, s113, s114, s115, s116, s117, s118, s119, s120, s121, s122, s123, s124, s125, s126, s127, s128, s129, s130, s131, s132, s133, s134, s135, s136, s137, s138, t139, t140, t141, t142, t143, t144, t145, t146, t147, t148, t149, t150, t151, t152, t153, t154, t155], []⟩ wx) :
    Code.wp Try.prog code20 Q ⟨#[.pointer (some ⟨R, 0, none⟩), s1, s2, s3, s4, s5, s6, s7, s8, s9, s10, s11, s12, s13, s14, s15, s16, s17, s18, s19, s20, s21, s22, s23, s24, s25, s26, s27, s28, s29, s30, s31, s32, s33, s34, s35, s36, s37, s38, s39, s40, s41, s42, s43, s44, s45, s46, s47, s48, s49, s50, s51, s52, s53, s54, s55, s56, s57, s58, s59, s60, s61, s62, s63, s64, s65, s66, s67, s68, s69, s70, s71, s72, s73, s74, s75, s76, s77, s78, s79, s80, s81, s82, s83, s84, s85, s86, s87, s88, s89, s90, s91, s92, s93, s94, s95, s96, s97, s98, s99, s100, s101, s102, s103, s104, s105, s106, s107, s108, s109, s110, s111, s112, s113, s114, s115, s116, s117, s118, s119, s120, s121, s122, s123, s124, s125, s126, s127, s128, s129, s130, s131, s132, s133, s134, s135, s136, s137, s138, s139, s140, s141, s142, s143, s144, s145, s146, s147, s148, s149, s150, s151, s152, s153, s154, s155], []⟩ wc := by
  suffices hs : Code.wp Try.prog code20 (Exit.then (fun a' w' => ∃ (t139 t140 t141 t142 t143 t144 t145 t146 t147 t148 t149 t150 t151 t152 t153 t154 t155 : Value), a' = ⟨#[.pointer (some ⟨R, 0, none⟩), s1, s2, s3, s4, s5, s6, s7, s8, s9, s10, s11, s12, s13, s14, s15, s16, s17, s18, s19, s20, s21, s22, s23, s24, s25, s26, s27, s28, s29, s30, s31, s32, s33, s34, s35, s36, s37, s38, s39, s40, s41, s42, s43, s44, s45, s46, s47, s48, s49, s50, s51, s52, s53, s54, s55, s56, s57, s58, s59, s60, s61, s62, s63, s64, s65, s66, s67, s68, s69, s70, s71, s72, s73, s74, s75, s76, s77, s78, s79, s80, s81, s82, s83, s84, s85, s86, s87, s88, s89, s90, s91, s92, s93, s94, s95, s96, s97, s98, s99, s100, s101, s102, s103, s104, s105, s106, s107, s108, s109, s110, s111, s112, s113, s114, s115, s116, s117, s118, s119, s120, s121, s122, s123, s124, s125, s126, s127, s128, s129, s130, s131, s132, s133, s134, s135, s136, s137, s138, t139, t140, t141, t142, t143, t144, t145, t146, t147, t148, t149, t150, t151, t152, t153, t154, t155], []⟩ ∧ (RM w' R C S L { r with bnd := r.rep.min (r.least 0), is := true } ∧ Chg (Four R C S L) wc w')) (fun _ _ _ => False)) ⟨#[.pointer (some ⟨R, 0, none⟩), s1, s2, s3, s4, s5, s6, s7, s8, s9, s10, s11, s12, s13, s14, s15, s16, s17, s18, s19, s20, s21, s22, s23, s24, s25, s26, s27, s28, s29, s30, s31, s32, s33, s34, s35, s36, s37, s38, s39, s40, s41, s42, s43, s44, s45, s46, s47, s48, s49, s50, s51, s52, s53, s54, s55, s56, s57, s58, s59, s60, s61, s62, s63, s64, s65, s66, s67, s68, s69, s70, s71, s72, s73, s74, s75, s76, s77, s78, s79, s80, s81, s82, s83, s84, s85, s86, s87, s88, s89, s90, s91, s92, s93, s94, s95, s96, s97, s98, s99, s100, s101, s102, s103, s104, s105, s106, s107, s108, s109, s110, s111, s112, s113, s114, s115, s116, s117, s118, s119, s120, s121, s122, s123, s124, s125, s126, s127, s128, s129, s130, s131, s132, s133, s134, s135, s136, s137, s138, s139, s140, s141, s142, s143, s144, s145, s146, s147, s148, s149, s150, s151, s152, s153, s154, s155], []⟩ wc by
    refine Code.wp_mono (fun e a w h => ?_) hs
    cases e with
    | normal =>
      obtain ⟨t139, t140, t141, t142, t143, t144, t145, t146, t147, t148, t149, t150, t151, t152, t153, t154, t155, rfl, hp⟩ := h
      exact hK t139 t140 t141 t142 t143 t144 t145 t146 t147 t148 t149 t150 t151 t152 t153 t154 t155 w hp
    | _ => exact False.elim h
  clear hK
  conv => arg 2; whnf
  have kl2 := Lib.hid (fun W => lesser_any r.rep (r.least 0) W)
  have hn := hm.n16
  have HM := Lib.hid hm
  clear hm
  have hss : ∀ W (r' : Rn), RM W R C S L r' → r'.n = r.n → r'.least = r.least → r'.rep = r.rep → W.cell? ⟨R, 4, none⟩ = some (.slice (some ⟨L, 0, none⟩) (r.n + 1) (r.n + 1)) ∧ W.cell? ⟨L, 0, none⟩ = some (.int .i64 (r.least 0).T) ∧ W.cell? ⟨L, 1, none⟩ = some (.int .i64 (r.least 0).O) ∧ W.cell? ⟨L, 2, none⟩ = some (.int .i64 (r.least 0).S) ∧ W.cell? ⟨R, 5, none⟩ = some (.int .i64 r.rep.T) ∧ W.cell? ⟨R, 6, none⟩ = some (.int .i64 r.rep.O) ∧ W.cell? ⟨R, 7, none⟩ = some (.int .i64 r.rep.S) := fun W r' h e1 e2 e3 => by
    obtain ⟨l0, l1, l2⟩ := h.leastAt (Nat.zero_le _)
    obtain ⟨r0, r1, r2⟩ := h.fr
    have f4 := h.f4
    rw [e1] at f4
    rw [e2] at l0 l1 l2
    rw [e3] at r0 r1 r2
    exact ⟨f4, l0, l1, l2, r0, r1, r2⟩
  have HSS := Lib.hid hss
  clear hss
  refine wp_region_E (fun W => W.cell? ⟨R, 4, none⟩ = some (.slice (some ⟨L, 0, none⟩) (r.n + 1) (r.n + 1)) ∧ W.cell? ⟨L, 0, none⟩ = some (.int .i64 (r.least 0).T) ∧ W.cell? ⟨L, 1, none⟩ = some (.int .i64 (r.least 0).O) ∧ W.cell? ⟨L, 2, none⟩ = some (.int .i64 (r.least 0).S) ∧ W.cell? ⟨R, 5, none⟩ = some (.int .i64 r.rep.T) ∧ W.cell? ⟨R, 6, none⟩ = some (.int .i64 r.rep.O) ∧ W.cell? ⟨R, 7, none⟩ = some (.int .i64 r.rep.S)) 18 (by kernel_rfl) ?_
  have hS := HSS.out wc.drew r HM.out.drew rfl rfl rfl
  refine wpAnyE_take (i := 0) (v := .pointer (some ⟨R, 0, none⟩)) rfl (by kernel_rfl) (by kernel_rfl) (by kernel_rfl) (by kernel_rfl) (fun _ _ _ h => h) (by rfl) (fun u hu => ?_) hS ?_
  · obtain ⟨e0, e1, e2, e3, e4, e5, e6⟩ := hu
    go_simp
  try simp only [Act.put, List.setIfInBounds_toArray, List.set_cons_zero, List.set_cons_succ]
  refine wpAnyE_take (i := 1) (v := .pointer (some ⟨R, 0, none⟩)) rfl (by kernel_rfl) (by kernel_rfl) (by kernel_rfl) (by kernel_rfl) (fun _ _ _ h => h) (by rfl) (fun u hu => ?_) hS ?_
  · obtain ⟨e0, e1, e2, e3, e4, e5, e6⟩ := hu
    go_simp
  try simp only [Act.put, List.setIfInBounds_toArray, List.set_cons_zero, List.set_cons_succ]
  refine wpAnyE_take (i := 2) (v := .pointer (some ⟨R, 0, none⟩)) rfl (by kernel_rfl) (by kernel_rfl) (by kernel_rfl) (by kernel_rfl) (fun _ _ _ h => h) (by rfl) (fun u hu => ?_) hS ?_
  · obtain ⟨e0, e1, e2, e3, e4, e5, e6⟩ := hu
    go_simp
  try simp only [Act.put, List.setIfInBounds_toArray, List.set_cons_zero, List.set_cons_succ]
  refine wpAnyE_take (i := 3) (v := .pointer (some ⟨R, 0, none⟩)) rfl (by kernel_rfl) (by kernel_rfl) (by kernel_rfl) (by kernel_rfl) (fun _ _ _ h => h) (by rfl) (fun u hu => ?_) hS ?_
  · obtain ⟨e0, e1, e2, e3, e4, e5, e6⟩ := hu
    go_simp
  try simp only [Act.put, List.setIfInBounds_toArray, List.set_cons_zero, List.set_cons_succ]
  refine wpAnyE_take (i := 4) (v := .pointer (some ⟨R, 5, none⟩)) rfl (by kernel_rfl) (by kernel_rfl) (by kernel_rfl) (by kernel_rfl) (fun _ _ _ h => h) (by rfl) (fun u hu => ?_) hS ?_
  · obtain ⟨e0, e1, e2, e3, e4, e5, e6⟩ := hu
    go_simp
  try simp only [Act.put, List.setIfInBounds_toArray, List.set_cons_zero, List.set_cons_succ]
  refine wpAnyE_take (i := 5) (v := .agg #[.int .i64 r.rep.T, .int .i64 r.rep.O, .int .i64 r.rep.S]) rfl (by kernel_rfl) (by kernel_rfl) (by kernel_rfl) (by kernel_rfl) (fun _ _ _ h => h) (by rfl) (fun u hu => ?_) hS ?_
  · obtain ⟨e0, e1, e2, e3, e4, e5, e6⟩ := hu
    go_simp
  try simp only [Act.put, List.setIfInBounds_toArray, List.set_cons_zero, List.set_cons_succ]
  refine wpAnyE_take (i := 6) (v := .pointer (some ⟨R, 0, none⟩)) rfl (by kernel_rfl) (by kernel_rfl) (by kernel_rfl) (by kernel_rfl) (fun _ _ _ h => h) (by rfl) (fun u hu => ?_) hS ?_
  · obtain ⟨e0, e1, e2, e3, e4, e5, e6⟩ := hu
    go_simp
  try simp only [Act.put, List.setIfInBounds_toArray, List.set_cons_zero, List.set_cons_succ]
  refine wpAnyE_take (i := 7) (v := .pointer (some ⟨R, 0, none⟩)) rfl (by kernel_rfl) (by kernel_rfl) (by kernel_rfl) (by kernel_rfl) (fun _ _ _ h => h) (by rfl) (fun u hu => ?_) hS ?_
  · obtain ⟨e0, e1, e2, e3, e4, e5, e6⟩ := hu
    go_simp
  try simp only [Act.put, List.setIfInBounds_toArray, List.set_cons_zero, List.set_cons_succ]
  refine wpAnyE_take (i := 8) (v := .pointer (some ⟨R, 4, none⟩)) rfl (by kernel_rfl) (by kernel_rfl) (by kernel_rfl) (by kernel_rfl) (fun _ _ _ h => h) (by rfl) (fun u hu => ?_) hS ?_
  · obtain ⟨e0, e1, e2, e3, e4, e5, e6⟩ := hu
    go_simp
  try simp only [Act.put, List.setIfInBounds_toArray, List.set_cons_zero, List.set_cons_succ]
  refine wpAnyE_take (i := 9) (v := .slice (some ⟨L, 0, none⟩) (r.n + 1) (r.n + 1)) rfl (by kernel_rfl) (by kernel_rfl) (by kernel_rfl) (by kernel_rfl) (fun _ _ _ h => h) (by rfl) (fun u hu => ?_) hS ?_
  · obtain ⟨e0, e1, e2, e3, e4, e5, e6⟩ := hu
    go_simp
  try simp only [Act.put, List.setIfInBounds_toArray, List.set_cons_zero, List.set_cons_succ]
  refine wpAnyE_take (i := 10) (v := .pointer (some ⟨L, 0, none⟩)) rfl (by kernel_rfl) (by kernel_rfl) (by kernel_rfl) (by kernel_rfl) (fun _ _ _ h => h) (by rfl) (fun u hu => ?_) hS ?_
  · obtain ⟨e0, e1, e2, e3, e4, e5, e6⟩ := hu
    go_simp
  try simp only [Act.put, List.setIfInBounds_toArray, List.set_cons_zero, List.set_cons_succ]
  refine wpAnyE_take (i := 11) (v := .agg #[.int .i64 (r.least 0).T, .int .i64 (r.least 0).O, .int .i64 (r.least 0).S]) rfl (by kernel_rfl) (by kernel_rfl) (by kernel_rfl) (by kernel_rfl) (fun _ _ _ h => h) (by rfl) (fun u hu => ?_) hS ?_
  · obtain ⟨e0, e1, e2, e3, e4, e5, e6⟩ := hu
    go_simp
  try simp only [Act.put, List.setIfInBounds_toArray, List.set_cons_zero, List.set_cons_succ]
  clear hS
  refine wpAnyE_step (i := 12) (by kernel_rfl) rfl (by rfl) fun K hK => ?_
  go_simp
  go_at_call 25
  refine (kl2.out _).mono ?_
  rintro e w8 ⟨rfl, b8⟩
  have N8 := Lib.hid ((Nw.drew (Nw.refl wc)).step b8)
  have H8 := Lib.hid (HM.out.new N8.out)
  have hS := HSS.out w8 r H8.out rfl rfl rfl
  refine hK _ _ (.inr hS) ?_
  try simp only [Act.put, List.setIfInBounds_toArray, List.set_cons_zero, List.set_cons_succ]
  refine wpAnyE_step (i := 13) (by kernel_rfl) rfl (by rfl) fun K hK => ?_
  go_simp
  refine hK _ _ (.inr hS) ?_
  try simp only [Act.put, List.setIfInBounds_toArray, List.set_cons_zero, List.set_cons_succ]
  refine wpAnyE_step (i := 14) (by kernel_rfl) rfl (by rfl) fun K hK => ?_
  go_simp
  refine hK _ _ (.inr hS) ?_
  try simp only [Act.put, List.setIfInBounds_toArray, List.set_cons_zero, List.set_cons_succ]
  clear hS
  obtain ⟨q0, q1, q2⟩ := H8.out.fb
  have y0 := H8.out.frz.1 8
  have y1 := H8.out.frz.1 9
  have y2 := H8.out.frz.1 10
  refine wpAnyE_step (i := 15) (by kernel_rfl) rfl (by rfl) fun K hK => ?_
  go_simp
  have h9 := H8.out.setBnd0 (r.rep.min (r.least 0))
  have k9 := (((Chg.of_below N8.out (Nat.le_refl _) (Four R C S L)).setCell (p := ⟨R, 8, none⟩) (.inl (.inl rfl)) (.int .i64 (r.rep.min (r.least 0)).T)).setCell (p := ⟨R, 9, none⟩) (.inl (.inl rfl)) (.int .i64 (r.rep.min (r.least 0)).O)).setCell (p := ⟨R, 10, none⟩) (.inl (.inl rfl)) (.int .i64 (r.rep.min (r.least 0)).S)
  have hS := HSS.out _ _ h9 rfl rfl rfl
  refine hK _ _ (.inr hS) ?_
  try simp only [Act.put, List.setIfInBounds_toArray, List.set_cons_zero, List.set_cons_succ]
  clear q0 q1 q2 y0 y1 y2
  generalize World.setCell _ _ _ = w9 at h9 k9 hS ⊢
  have H9 := Lib.hid h9
  have K9 := Lib.hid k9
  clear h9 k9
  refine wpAnyE_step (i := 16) (by kernel_rfl) rfl (by rfl) fun K hK => ?_
  go_simp
  refine hK _ _ (.inr hS) ?_
  try simp only [Act.put, List.setIfInBounds_toArray, List.set_cons_zero, List.set_cons_succ]
  refine wpAnyE_step (i := 17) (by kernel_rfl) rfl (by rfl) fun K hK => ?_
  go_simp
  refine hK _ _ (.inr hS) ?_
  try simp only [Act.put, List.setIfInBounds_toArray, List.set_cons_zero, List.set_cons_succ]
  clear hS
  have q3 := H9.out.f11
  have y3 := H9.out.frz.1 11
  refine wpAnyE_step (i := 18) (by kernel_rfl) rfl (by rfl) fun K hK => ?_
  go_simp
  refine hK _ _ (.inl rfl) ?_
  try simp only [Act.put, List.setIfInBounds_toArray, List.set_cons_zero, List.set_cons_succ]
  refine wpAnyE_done (by kernel_rfl) ?_ _
  refine ⟨_, _, _, _, _, _, _, _, _, _, _, _, _, _, _, _, _, rfl, ?_⟩
  exact ⟨H9.out.setIs, K9.out.setCell (p := ⟨R, 11, none⟩) (.inl (.inl rfl)) _⟩
end Go.Proofs.Ytbgpbbepeemieaa
