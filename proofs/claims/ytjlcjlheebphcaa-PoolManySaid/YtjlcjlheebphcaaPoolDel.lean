/- slices.Delete of one message that is not the last. Helper. -/
import Derived.Test.YtjlcjlheebphcaaPoolA
namespace Go.Proofs.Ytjlcjlheebphcaa
open Go.RowKit
set_option linter.unusedVariables false
set_option linter.unusedSimpArgs false
/-- 'append(v, x...)' where there is room, in a block that is known whole: x may lie in the same block. -/
theorem run_append_over {P : Program} (w : World) (t ty e tb : TypeId) (i : TypeInfo) (size : Nat) (ht : P.underlying t = some (.slice e)) (hi : P.info? e = some i) (hsize : i.size = size) (g off k cap : Nat) (cur : Array Value) (hg : Blk w g tb cur) (ad : Addr) (m c : Nat) (news : List Value)
    (hl : news.length = m * size) (hr : ∀ j u, news[j]? = some u → w.cell? (ad.add j) = some u) (h1 : ∀ u ∈ news, u.oneCell' = true) (hroom : k + m ≤ cap) (hfit : off + k * size + news.length ≤ cur.size) :
    (Builtin.append_ #[t, t] ty #[.slice (some ⟨g, off, none⟩) k cap, .slice (some ad) m c]).run P w = .ok (.slice (some ⟨g, off, none⟩) (k + m) cap) (w.setRow g (lay cur.toList (off + k * size) news).toArray) := by
  subst hsize
  have hf := run_firstCells_some (P := P) w i.size m ad m c news hl hr
  have hst := run_storeCells_at P g (off + k * i.size) tb news 0 cur w hg (by simpa using hfit) h1
  simp only [Nat.add_zero] at hst
  simp [Builtin.append_, run_underlying ht, sizeOf, typeInfo, hi, Builtin.lenOf, hroom, hf, add_plain, hst, lay]
def zero10 : List Value := [.int .i64 0, .int .i64 0, .int .i64 0, .int .i64 0, .int .i64 0, .int .i64 0, .int .i64 0, .bool false, .bool false, .int .i64 0]
theorem zero10_one : ∀ u ∈ zero10, u.oneCell' = true := msgC_one 0
theorem del_at (cur : List Value) (off n c i : Nat) (xs : List Value) (hl : xs.length = n * 10) (hi : i + 1 < n) (hc : n ≤ c) (hfit : off + c * 10 ≤ cur.length) (ht : (cur.drop off).take (n * 10) = xs) :
    ((lay (lay cur (off + i * 10) (xs.drop ((i + 1) * 10))) (off + (n - 1) * 10) zero10).drop off).take ((n - 1) * 10) = xs.take (i * 10) ++ xs.drop ((i + 1) * 10) := by
  have hd : (xs.drop ((i + 1) * 10)).length = (n - 1) * 10 - i * 10 := by rw [List.length_drop, hl]; omega
  have hz : zero10.length = 10 := rfl
  have hx : ∀ j, j < n * 10 → cur[off + j]? = xs[j]? := fun j hj => by rw [← ht, List.getElem?_take_of_lt hj, List.getElem?_drop]
  have f1 : off + i * 10 + (xs.drop ((i + 1) * 10)).length ≤ cur.length := by rw [hd]; omega
  have f2 : off + (n - 1) * 10 + zero10.length ≤ (lay cur (off + i * 10) (xs.drop ((i + 1) * 10))).length := by rw [lay_length _ _ _ f1, hz]; omega
  have htk : (xs.take (i * 10)).length = i * 10 := by rw [List.length_take, hl]; omega
  apply List.ext_getElem?
  intro j
  rw [List.getElem?_take, List.getElem?_drop, lay_get _ _ _ f2, lay_get _ _ _ f1, hd]
  by_cases h : j < (n - 1) * 10
  · rw [if_pos h, if_pos (show off + j < off + (n - 1) * 10 by omega)]
    by_cases h2 : j < i * 10
    · rw [if_pos (show off + j < off + i * 10 by omega), hx j (by omega), List.getElem?_append_left (by omega), List.getElem?_take_of_lt h2]
    · rw [if_neg (show ¬ off + j < off + i * 10 by omega), if_pos (show off + j < off + i * 10 + ((n - 1) * 10 - i * 10) by omega), List.getElem?_append_right (by omega), htk, show off + j - (off + i * 10) = j - i * 10 by omega]
  · rw [if_neg h, List.getElem?_eq_none (by rw [List.length_append, htk, hd]; omega)]
section
variable (A : Option Addr) (n c i : Nat) (xs : List Value) (blk : Option Nat) (w : World)
set_option maxRecDepth 100000
set_option maxHeartbeats 1600000
theorem delete_any (h : Own w 33 10 (.slice A n c) n xs blk) (hi : i + 1 < n) (hn : n ≤ 1000000) (hx1 : ∀ u ∈ xs, u.oneCell' = true) :
    Calls Try.prog 11 #[.slice A n c, .int .i64 i, .int .i64 (i + 1 : Nat)] w fun e w' =>
      e = .returned (.slice A (n - 1) c) ∧ Own w' 33 10 (.slice A (n - 1) c) (n - 1) (xs.take (i * 10) ++ xs.drop ((i + 1) * 10)) blk ∧ Chg (fun k => some k = blk) w w' := by
  obtain ⟨i0, hi0, hz0, hz1, hz2⟩ := info_parts infoMsg
  obtain ⟨hxl, A', c', e, hnc, hcm, h3 | ⟨g, off, cur, rfl, rfl, hg, hfit, htake⟩⟩ := h
  · injection e with _ _ e3
    have := h3.1
    omega
  injection e with e1 _ e3
  subst e1 e3
  obtain ⟨m, hm⟩ : ∃ m, n - (i + 1) = m := ⟨_, rfl⟩
  obtain ⟨n1, hn1⟩ : ∃ n1, n - 1 = n1 := ⟨_, rfl⟩
  have hmn : i + m = n1 := by omega
  have hdl : (xs.drop ((i + 1) * 10)).length = m * 10 := by rw [List.length_drop, hxl]; omega
  have hcl : off + c * 10 ≤ cur.toList.length := by rw [Array.length_toList]; exact hfit
  have hll : (lay cur.toList (off + i * 10) (xs.drop ((i + 1) * 10))).length = cur.toList.length := lay_length _ _ _ (by rw [hdl]; omega)
  have hsrc : ∀ j u, (xs.drop ((i + 1) * 10))[j]? = some u → w.cell? ⟨g, off + (i + 1) * 10 + j, none⟩ = some u := fun j u hu => by
    rw [hg.cell, ← Array.getElem?_toList]
    rw [List.getElem?_drop, ← htake, List.getElem?_take] at hu
    split at hu
    · rw [List.getElem?_drop] at hu; rw [Nat.add_assoc]; exact hu
    · cases hu
  obtain ⟨w3, hw3⟩ : ∃ w3, w.drew.setRow g (lay cur.toList (off + i * 10) (xs.drop ((i + 1) * 10))).toArray = w3 := ⟨_, rfl⟩
  have hap : ∀ c2, (Builtin.append_ #[38, 38] 38 #[.slice (some ⟨g, off, none⟩) i c, .slice (some ⟨g, off + (i + 1) * 10, none⟩) m c2]).run Try.prog w.drew = .ok (.slice (some ⟨g, off, none⟩) n1 c) w3 := fun c2 => by
    have k := run_append_over (P := Try.prog) w.drew 38 38 33 33 i0 10 Try.underlying38 hi0 hz1 g off i c cur hg.drew ⟨g, off + (i + 1) * 10, none⟩ m c2 (xs.drop ((i + 1) * 10)) hdl (fun j u hu => by rw [add_plain]; exact hsrc j u hu) (fun u hu => hx1 u (List.mem_of_mem_drop hu)) (by omega) (by rw [hdl, ← Array.length_toList]; omega)
    rw [k, hw3, hmn]
  have hb3 : Blk w3 g 33 (lay cur.toList (off + i * 10) (xs.drop ((i + 1) * 10))).toArray := by rw [← hw3]; exact setRow_heap w.drew g _ _ _ _ hg.drew
  have hch3 : Chg (fun k => some k = some g) w w3 := by rw [← hw3]; exact Chg.setRow (M := fun k => some k = some g) ((Chg.refl (fun k => some k = some g) w).drew) (.inl rfl) _
  obtain ⟨w4, hw4⟩ : ∃ w4, w3.setRow g (lay (lay cur.toList (off + i * 10) (xs.drop ((i + 1) * 10))) (off + n1 * 10) zero10).toArray = w4 := ⟨_, rfl⟩
  have hcr : ∀ c2, (Builtin.clear_ #[38] 0 #[.slice (some ⟨g, off + n1 * 10, none⟩) 1 c2]).run Try.prog w3 = .ok (.tuple #[]) w4 := fun c2 => by
    rw [← hw4]
    have k := run_clear_at (P := Try.prog) w3 38 33 0 33 (.agg #[.int .i64 0, .int .i64 0, .int .i64 0, .int .i64 0, .int .i64 0, .int .i64 0, .int .i64 0, .bool false, .bool false, .int .i64 0]) 10 zero10 Try.underlying38 (by kernel_rfl) g (off + n1 * 10) 1 c2 (by omega) (by kernel_rfl) (lay cur.toList (off + i * 10) (xs.drop ((i + 1) * 10))).toArray hb3 (by rw [List.size_toArray, hll]; show _ + 10 ≤ _; omega) zero10_one
    exact k
  have hb4 : Blk w4 g 33 (lay (lay cur.toList (off + i * 10) (xs.drop ((i + 1) * 10))) (off + n1 * 10) zero10).toArray := by rw [← hw4]; exact setRow_heap w3 g _ _ _ _ hb3
  have hch4 : Chg (fun k => some k = some g) w w4 := by rw [← hw4]; exact Chg.setRow (M := fun k => some k = some g) hch3 (.inl rfl) _
  have hown : Own w4 33 10 (.slice (some ⟨g, off, none⟩) n1 c) n1 (xs.take (i * 10) ++ xs.drop ((i + 1) * 10)) (some g) := by
    refine ⟨by rw [List.length_append, hdl, List.length_take, hxl]; omega, _, c, rfl, by omega, hcm, .inr ⟨g, off, _, rfl, rfl, hb4, ?_, ?_⟩⟩
    · rw [List.size_toArray, lay_length _ _ _ (by rw [hll]; show _ + 10 ≤ _; omega), hll]; exact hcl
    · subst hn1; exact del_at cur.toList off n c i xs hxl hi hnc hcl htake
  have hcm' : c ≤ 9223372036854775807 := by simpa [maxLen] using hcm
  have hap1 := hap (c - (i + 1))
  rw [← hm] at hap1
  have HAP := Lib.hid hap1
  have HCR := Lib.hid hcr
  have HOWN := Lib.hid hown
  have HCH := Lib.hid hch4
  have HN1 := Lib.hid hn1
  rw [hn1]
  have k1 : (i : Int) + 1 ≤ (n : Int) := by omega
  have k0 : (0 : Int) ≤ (i : Int) + 1 := by omega
  have k2 : (n : Int) ≤ (c : Int) := by omega
  have k3 : ¬ c = n1 := by omega
  have k4 : ¬ c = i + 1 := by omega
  have k5 : (i : Int) + 1 ≤ (c : Int) := by omega
  have k6 : (i : Int) ≤ (c : Int) := by omega
  have k7 : (n1 : Int) ≤ (n : Int) := by omega
  have k8 : n - n1 = 1 := by omega
  have HM := Lib.hid hm
  clear hm hn1 hap hap1 hcr hown hch4 hw4 hb4 hch3 hb3 hw3 hsrc hll hcl hdl htake hfit hg hx1 hi0 hz0 hz1 hz2 hxl hcm hmn
  go_enter Try.func11, Try.ntmps11
  go_wp2_with fail
  go_region_law ((refine step_append_run _ (by rfl) _ _ _ _ (by rfl) _ _ (by rfl) (by rfl) HAP.out ?_))
  go_wp2_with fail
  rw [HCR.out]
  go_wp2_with fail
  go_ret
  exact ⟨rfl, HOWN.out, HCH.out⟩
end
end Go.Proofs.Ytjlcjlheebphcaa
