/- What the machine's instructions do: tell. Helper. -/
import Derived.Test.YtgijkgngldfdiaaVmOps2
import Derived.Deep.RegionLaw
namespace Go.Proofs.Ytgijkgngldfdiaa
open Go.RowKit
set_option linter.unusedVariables false
set_option linter.unusedSimpArgs false
def Vm.tellV (c : Cfg) (s : Vm) : Vm :=
  if s.tells.length < 4 then { s.pop with tells := s.tells ++ [[c.time, c.origin, c.seq, c.self, s.tells.length, s.top]] } else s.pop
theorem infoRec : (Try.prog.info? 98).map (fun i => (i.zero, i.size, i.bytes)) = some (some (.agg #[.int .i64 0, .int .i64 0, .int .i64 0, .int .i64 0, .int .i64 0, .int .i64 0]), 6, 48) := by kernel_rfl
section
variable (Hm : Nat → Prop) (R MB : Nat) (c : Cfg) (s : Vm) (n : Int) (w : World)
set_option maxRecDepth 100000
set_option maxHeartbeats 6000000
theorem tell_any (h : RunH w Hm R MB c s) (hlen : s.tells.length ≤ 4294967295) :
    Calls Try.prog 98 #[.pointer (some ⟨R, 0, none⟩), .int .i64 n] w fun e w' => e = .returned (.tuple #[]) ∧ Done w w' Hm R MB c (Vm.tellV c s) := by
  unfold Vm.tellV
  have k1 := take_any Hm R MB c s w h
  obtain ⟨t1, h1⟩ : ∃ t, s.top = t := ⟨_, rfl⟩
  rw [h1] at k1 ⊢
  obtain ⟨s3, hs3⟩ : ∃ s3, s.pop = s3 := ⟨_, rfl⟩
  have et : s.tells = s3.tells := by rw [← hs3]; rfl
  rw [et] at hlen ⊢
  rw [hs3] at k1 ⊢
  have K1 := Lib.hid k1
  clear h h1 k1 hs3 et
  obtain ⟨q, hq⟩ : ∃ q, s3.tells.length = q := ⟨_, rfl⟩
  rw [hq] at hlen ⊢
  have HQ := Lib.hid hq
  clear hq
  by_cases hln : q < 4
  · rw [if_pos hln]
    have g4 : (q : Int) < 4 := by omega
    obtain ⟨i0, hi0, hz0, hz1, hz2⟩ := info_parts infoRec
    have HL1 := Lib.hid hi0
    have HL2 := Lib.hid hz0
    have HL3 := Lib.hid hz1
    have HL4 := Lib.hid hz2
    clear hi0 hz0 hz1 hz2
    go_enter Try.func98, Try.ntmps98
    go_wp2_with fail
    refine K1.out.mono ?_
    rintro e w3 ⟨rfl, d3⟩
    have D3 := Lib.hid d3
    have r3 := d3.run
    clear d3 K1
    obtain ⟨⟨cs, sv, tv, SB, TB, hb, hr, hh⟩, hm, hR, hM, hMlt⟩ := r3
    obtain ⟨A, cap, rfl, _, _, _⟩ := hh.t.rd
    have c0 : w3.cell? ⟨R, 0, none⟩ = some (.pointer (some ⟨MB, 0, none⟩)) := (hb.cell 0).trans hr.c0
    have c1 : w3.cell? ⟨R, 1, none⟩ = some (.int .i64 c.time) := (hb.cell 1).trans hr.c1
    have c2 : w3.cell? ⟨R, 2, none⟩ = some (.int .i64 c.origin) := (hb.cell 2).trans hr.c2
    have c3 : w3.cell? ⟨R, 3, none⟩ = some (.int .i64 c.seq) := (hb.cell 3).trans hr.c3
    have c11 : w3.cell? ⟨R, 11, none⟩ = some (.slice A q cap) := (hb.cell 11).trans (by rw [hr.c11, HQ.out])
    have m2 := hm.m2
    have f11 := hb.frozen 11
    have hlR := hb.lt
    have hlM := hMlt
    have HB := Lib.hid hb
    have HR := Lib.hid hr
    have HH := Lib.hid hh
    have HM := Lib.hid hm
    have HRR := Lib.hid hR
    have HMM := Lib.hid hM
    have HML := Lib.hid hMlt
    have ho3 : Own w3 98 6 (.slice A q cap) q (ints s3.tells.flatten) TB := by
      have k := hh.t
      rw [HQ.out] at k
      exact k
    have HO3 := Lib.hid ho3
    have hSR : TB ≠ some R := fun e => by obtain ⟨cur, hc⟩ := ho3.tyB R e; exact absurd rfl (hc.ne_ hb (by decide))
    have HSR := Lib.hid hSR
    clear hb hr hh hm hR hM hMlt ho3 hSR
    go_upto_region 3 with (fail)
    go_region_law (refine step_append_at _ (by rfl) _ _ _ (by rfl) 98 i0 _ 6 48 Try.underlying54 HL1.out HL2.out HL3.out HL4.out rfl (by omega) _ q (ints s3.tells.flatten) TB (by rfl) (HO3.out.kept (fun g hg => Below.heap_alloc _ _ _ (HO3.out.lt g hg))) _ 1 1 (ints [c.time, c.origin, c.seq, c.self, (q : Int), t1]) (by rfl) (by rfl) (rd_last_drew w3 _ (ints [c.time, c.origin, c.seq, c.self, (q : Int), t1])) (ints_one _) (by simp only [maxLen]; omega) (by omega) ?_; intro A2 c2 w6 SB2 hown2 hchg hat2; have hb6 : Blk w6 R 132 _ := ((HB.out.alloc _).drew).chg hchg (fun h => HSR.out h.symm); have hc6 : w6.cell? ⟨R, 11, none⟩ = some (.slice A q cap) := (hb6.cell 11).trans (by rw [HR.out.c11, HQ.out]); have hf6 := hb6.frozen 11)
    all_goals
      have HC6 := Lib.hid hchg
      have HO6 := Lib.hid hown2
      have HB6 := Lib.hid hb6
      have HA6 := Lib.hid hat2
      clear hchg hown2 hb6 hat2
      go_wp2_with fail
      go_end0
      refine ⟨rfl, D3.out.then ?_⟩
      have hl : (s3.tells ++ [[c.time, c.origin, c.seq, c.self, (q : Int), t1]]).length = q + 1 := by rw [List.length_append, HQ.out]; rfl
      have keep : ∀ g t cs', (t = 2 ∨ t = 44) → Blk w3 g t cs' → (w6.setCell ⟨R, 11, none⟩ (.slice A2 (q + 1) c2)).heap[g]? = w3.heap[g]? := fun g t cs' ht hg => by
        have n1 : g ≠ R := hg.ne_ HB.out (by rcases ht with rfl | rfl <;> decide)
        have n2 : some g ≠ TB := fun e => by
          obtain ⟨cur, hc⟩ := HH.out.t.tyB g e.symm
          exact absurd rfl (hg.ne_ hc (by rcases ht with rfl | rfl <;> decide))
        have hlt := hg.lt
        rw [Below.heap_setCell _ _ _ _ n1, HC6.out.block g (by simp; omega) n2]
        exact Below.heap_alloc _ _ _ hg.lt
      refine RunH.turn (SB := SB) (TB := SB2) HMM.out HML.out HRR.out HM.out (HB6.out.set_ 11 _) (HR.out.setTells (.slice A2 (q + 1) c2) (s3.tells ++ [[c.time, c.origin, c.seq, c.self, (q : Int), t1]])) ⟨?_, ?_, ?_, ?_, ?_, ?_⟩ ?_
      · exact HH.out.v.kept fun g hg => by obtain ⟨cur, hc⟩ := HH.out.v.tyB g hg; exact keep g _ cur (.inl rfl) hc
      · exact HH.out.s.kept fun g hg => by obtain ⟨cur, hc⟩ := HH.out.s.tyB g hg; exact keep g _ cur (.inr rfl) hc
      · rw [show ({ s3 with tells := s3.tells ++ [[c.time, c.origin, c.seq, c.self, (q : Int), t1]] } : Vm).tells = s3.tells ++ [[c.time, c.origin, c.seq, c.self, (q : Int), t1]] from rfl, hl, List.flatten_append, ints_append]
        exact HO6.out.kept fun g hg => Below.heap_setCell _ _ _ _ (fun e => by
          obtain ⟨cur, hc⟩ := HO6.out.tyB g hg
          exact absurd e (hc.ne_ HB6.out (by decide)))
      · exact fun g hg => .inl (HH.out.hv g hg)
      · exact fun g hg => .inl (HH.out.hs g hg)
      · intro g hg
        rcases HA6.out with e | e
        · exact .inl (HH.out.ht g (by rw [← e]; exact hg))
        · rw [e] at hg; injection hg with hg; simp at hg; exact .inr (by omega)
      · exact ((((Chg.refl _ w3).alloc _).drew).trans HC6.out (fun i hi e => HH.out.ht i e.symm)).setCell (p := ⟨R, 11, none⟩) (.inl HRR.out) _
  · rw [if_neg hln]
    have g4 : ¬ (q : Int) < 4 := by omega
    go_enter Try.func98, Try.ntmps98
    go_wp2_with fail
    refine K1.out.mono ?_
    rintro e w3 ⟨rfl, d3⟩
    have D3 := Lib.hid d3
    have r3 := d3.run
    clear d3 K1
    obtain ⟨cs, sv, tv, SB, TB, hb, hr, hh⟩ := r3.ex
    obtain ⟨A, cap, rfl, _, _, _⟩ := hh.t.rd
    have c11 : w3.cell? ⟨R, 11, none⟩ = some (.slice A q cap) := (hb.cell 11).trans (by rw [hr.c11, HQ.out])
    clear hb hr hh r3
    go_wp2_with fail
    go_end0
    exact ⟨rfl, D3.out⟩
end
end Go.Proofs.Ytgijkgngldfdiaa
