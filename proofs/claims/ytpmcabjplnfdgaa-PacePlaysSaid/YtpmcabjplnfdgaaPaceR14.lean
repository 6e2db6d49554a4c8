/- Region 14 of PacePlays (the document's rate is set): a theorem of its own. -/
import Derived.Test.YtpmcabjplnfdgaaPaceFarWalk
import Derived.Test.YtpmcabjplnfdgaaOpen
namespace Go.Proofs.Ytpmcabjplnfdgaa
open Go.RowKit
set_option linter.unusedVariables false
set_option linter.unusedSimpArgs false
def findRegion (n : Nat) : Code → Option Code
  | .region k ops d => if k = n then some (.region k ops d) else none
  | .loop c => findRegion n c
  | .seq a b => match findRegion n a with
    | some c => some c
    | none => findRegion n b
  | .block _ c => findRegion n c
  | .scope c => findRegion n c
  | .cond _ a b => match findRegion n a with
    | some c => some c
    | none => findRegion n b
  | _ => none
noncomputable def code14 : Code := ((Try.f5.body.bind (findRegion 14)).getD .skip)
set_option maxRecDepth 1000000 in
set_option maxHeartbeats 40000000 in
theorem region14 {s1 s2 s3 s6 s7 s8 s9 s10 s11 s12 s13 s14 s15 s16 s17 s18 s19 s20 s21 s22 s23 s24 s25 s26 s27 s28 s29 s30 s31 s32 s33 s34 s35 s36 s37 s38 s39 s40 s41 s42 s43 s44 s45 s46 s47 s48 s49 s50 s51 s52 s53 s54 s55 s56 s57 s58 s59 s60 s61 s62 s63 s64 s65 s66 s67 s68 s69 s70 s71 s72 s73 s74 s75 s76 s77 s78 s79 s80 s81 s82 s83 s84 s85 s86 s87 s88 s89 s90 s91 s92 s93 s94 s95 s96 s97 s98 s99 s100 s101 s102 s103 s104 s105 s106 s107 s108 s109 s110 s111 s112 s113 s114 s115 s116 s117 s118 s119 s120 s121 s122 s123 s124 s125 s126 s127 s128 s129 s130 s131 s132 s133 s134 s135 s136 s137 s138 s139 s140 s141 s142 s143 s144 s145 s146 s147 s148 s149 s150 s151 s152 s153 s154 s155 s156 s157 s158 s159 s160 s161 s162 s163 s164 s165 s166 s167 s168 s169 s170 s171 s172 s173 s174 s175 : Value} (b o i len cc G : Nat) (p q : Pc) (y z er : Int) (wc : World)
    (KF : Hid (∀ W, Calls Try.prog 14 #[.agg #[.int .i64 p.S, .int .i64 p.B, .int .i64 p.N, .int .i64 p.d, .int .i64 p.C], .int .i64 y, .int .i64 z] W fun e w' => e = .returned (.tuple #[.agg #[.int .i64 q.S, .int .i64 q.B, .int .i64 q.N, .int .i64 q.d, .int .i64 q.C], .int .i64 er]) ∧ Below W.heap.size W w'))
    (r5 : Blk wc G 33 (rcells p)) (hlt : i < len) (hl : len ≤ 60)
    (e1 : wc.cell? ⟨b, o + i * 3 + 1, none⟩ = some (.int .i64 y)) (e2 : wc.cell? ⟨b, o + i * 3 + 2, none⟩ = some (.int .i64 z)) (Q : Exit → Act → World → Prop)
    (hK : ∀ (t64 t65 t66 t67 t68 t69 t70 t71 t72 t73 t74 t75 t76 t77 t78 : Value) (g8 : Nat) (wx : World), Blk wx g8 33 #[.int .i64 q.S, .int .i64 q.B, .int .i64 q.N, .int .i64 q.d, .int .i64 q.C] → Below wc.heap.size wc wx → Q .normal ⟨#[.slice (some ⟨b, o, none⟩) len cc, s1, s2, s3, .pointer (some ⟨G, 0, none⟩), .int .i64 (i : Int), s6, s7, .pointer (some ⟨g8, 0, none⟩), .int .i64 er, s10, s11, s12, s13, s14, s15, s16, s17, s18, s19, s20, s21, s22, s23, s24, s25, s26, s27, s28, s29, s30, s31, s32, s33, s34, s35, s36, s37, s38, s39, s40, s41, s42, s43, s44, s45, s46, s47, s48, s49, s50, s51, s52, s53, s54, s55, s56, s57, s58, s59, s60, s61, s62, s63, t64, t65, t66, t67, t68, t69, t70, t71, t72, t73, t74, t75, t76, t77, t78, s79, s80, s81, s82, s83, s84, s85, s86, s87, s88, s89, s90, s91, s92, s93, s94, s95, s96, s97, s98, s99, s100, s101, s102, s103, s104, s105, s106, s107, s108, s109, s110, s111, s112, s113, s114, s115, s116, s117, s118, s119, s120, s121, s122, s123, s124, s125, s126, s127, s128, s129, s130, s131, s132, s133, s134, s135, s136, s137, s138, s139, s140, s141, s142, s143, s144, s145, s146, s147, s148, s149, s150, s151, s152, s153, s154, s155, s156, s157, s158, s159, s160, s161, s162, s163, s164, s165, s166, s167, s168, s169, s170, s171, s172, s173, s174, s175], []⟩ wx) :
    Code.wp Try.prog code14 Q ⟨#[.slice (some ⟨b, o, none⟩) len cc, s1, s2, s3, .pointer (some ⟨G, 0, none⟩), .int .i64 (i : Int), s6, s7, s8, s9, s10, s11, s12, s13, s14, s15, s16, s17, s18, s19, s20, s21, s22, s23, s24, s25, s26, s27, s28, s29, s30, s31, s32, s33, s34, s35, s36, s37, s38, s39, s40, s41, s42, s43, s44, s45, s46, s47, s48, s49, s50, s51, s52, s53, s54, s55, s56, s57, s58, s59, s60, s61, s62, s63, s64, s65, s66, s67, s68, s69, s70, s71, s72, s73, s74, s75, s76, s77, s78, s79, s80, s81, s82, s83, s84, s85, s86, s87, s88, s89, s90, s91, s92, s93, s94, s95, s96, s97, s98, s99, s100, s101, s102, s103, s104, s105, s106, s107, s108, s109, s110, s111, s112, s113, s114, s115, s116, s117, s118, s119, s120, s121, s122, s123, s124, s125, s126, s127, s128, s129, s130, s131, s132, s133, s134, s135, s136, s137, s138, s139, s140, s141, s142, s143, s144, s145, s146, s147, s148, s149, s150, s151, s152, s153, s154, s155, s156, s157, s158, s159, s160, s161, s162, s163, s164, s165, s166, s167, s168, s169, s170, s171, s172, s173, s174, s175], []⟩ wc := by
  conv => arg 2; whnf
  have hlb : b < wc.heap.size := World.block_lt_of_cell? wc _ e1
  have hlG : G < wc.heap.size := r5.lt
  obtain ⟨g0, g1, g2, g3, g4⟩ := rcell r5
  have hS : ∀ W, Nw wc W → (Nw wc W ∧ W.cell? ⟨G, 0, none⟩ = some (.int .i64 p.S) ∧ W.cell? ⟨G, 1, none⟩ = some (.int .i64 p.B) ∧ W.cell? ⟨G, 2, none⟩ = some (.int .i64 p.N) ∧ W.cell? ⟨G, 3, none⟩ = some (.int .i64 p.d) ∧ W.cell? ⟨G, 4, none⟩ = some (.int .i64 p.C) ∧ W.cell? ⟨b, o + i * 3 + 1, none⟩ = some (.int .i64 y) ∧ W.cell? ⟨b, o + i * 3 + 2, none⟩ = some (.int .i64 z)) := fun W i => ⟨i, i.cell g0, i.cell g1, i.cell g2, i.cell g3, i.cell g4, i.cell e1, i.cell e2⟩
  have HSS := Lib.hid hS
  have HK := Lib.hid hK
  clear hS hK r5
  go_region_held3 (fun W => Nw wc W ∧ W.cell? ⟨G, 0, none⟩ = some (.int .i64 p.S) ∧ W.cell? ⟨G, 1, none⟩ = some (.int .i64 p.B) ∧ W.cell? ⟨G, 2, none⟩ = some (.int .i64 p.N) ∧ W.cell? ⟨G, 3, none⟩ = some (.int .i64 p.d) ∧ W.cell? ⟨G, 4, none⟩ = some (.int .i64 p.C) ∧ W.cell? ⟨b, o + i * 3 + 1, none⟩ = some (.int .i64 y) ∧ W.cell? ⟨b, o + i * 3 + 2, none⟩ = some (.int .i64 z)) ((refine HSS.out _ ?_; repeat (first | assumption | exact Nw.refl wc | refine Nw.drew ?_ | refine Nw.alloc ?_ _ | refine Nw.set ?_ (by first | exact Nat.le_refl _ | omega) _))) (first
    | (go_at_call 14; refine (KF.out _).mono ?_; rintro e w6 ⟨rfl, b6⟩; first
      | (have n6 : Below wc.heap.size wc w6 := (Below.refl _ wc).drew.trans b6; have hz6 := n6.size; have j6 : Nw wc w6 := n6)
      | (have n6 : Below wc.heap.size wc w6 := ((Below.refl _ wc).alloc (Nat.le_refl _) _).drew.trans (b6.mono (by simp)); have j6 : Nw wc w6 := n6; have k6 : Blk w6 wc.heap.size 33 #[.int .i64 0, .int .i64 0, .int .i64 0, .int .i64 0, .int .i64 0] := (Blk.last wc 33 _ rfl).drew.below b6 (by simp); have q0 := k6.cell 0; have q1 := k6.cell 1; have q2 := k6.cell 2; have q3 := k6.cell 3; have q4 := k6.cell 4; have z0 := k6.frozen 0; have z1 := k6.frozen 1; have z2 := k6.frozen 2; have z3 := k6.frozen 3; have z4 := k6.frozen 4; simp at q0 q1 q2 q3 q4)))
  all_goals
    first
      | exact HK.out _ _ _ _ _ _ _ _ _ _ _ _ _ _ _ w6.heap.size _ (Blk.last w6 33 _ rfl) (n6.alloc n6.size _)
      | exact HK.out _ _ _ _ _ _ _ _ _ _ _ _ _ _ _ wc.heap.size _ (set5g k6 _ _ _ _ _) (below5 n6 (Nat.le_refl _) _ _ _ _ _)
end Go.Proofs.Ytpmcabjplnfdgaa
