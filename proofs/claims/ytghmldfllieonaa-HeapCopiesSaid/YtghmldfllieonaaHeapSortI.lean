/- slices.SortFunc over items, by the shelf's contract. Helper. -/
import Derived.Test.YtghmldfllieonaaSortI
import Derived.Shelf.SlSortCmp.NoneTotal
import Derived.Test.YtghmldfllieonaaHeapCmpD
import Derived.Test.YtghmldfllieonaaHeapNames
namespace Go.Proofs.Ytghmldfllieonaa
open Go.RowKit Go.Sort
set_option linter.unusedVariables false
set_option linter.unusedSimpArgs false
theorem cmp_swo : SWO (ltOf It.cmp) := by
  have e : ∀ x y, ltOf It.cmp x y = x.less y := fun x y => by
    have := It.cmp_neg x y
    unfold ltOf
    by_cases h : It.cmp x y < 0
    · rw [decide_eq_true h, this.1 h]
    · rw [decide_eq_false h]
      symm
      rw [← Bool.not_eq_true]
      exact fun h2 => h (this.2 h2)
  refine ⟨fun x => by rw [e]; exact It.less_irrefl x, fun x y z h1 h2 => ?_, fun x y z h1 h2 => ?_⟩
  · rw [e] at *; exact It.less_trans h1 h2
  · rw [e] at *; exact It.le_trans h2 h1
theorem lt_is (x y : It) : ltOf It.cmp x y = x.less y := by
  have := It.cmp_neg x y
  unfold ltOf
  by_cases h : It.cmp x y < 0
  · rw [decide_eq_true h, this.1 h]
  · rw [decide_eq_false h]
    symm
    rw [← Bool.not_eq_true]
    exact fun h2 => h (this.2 h2)
theorem item_agg (w : World) : (isAgg 36).run Try.prog w = .ok true w := by kernel_rfl
theorem item_cellsOf (w : World) : (sizeOf 36).run Try.prog w = .ok 7 w := by kernel_rfl
theorem bang (d : Array It) (i : Nat) : d[i]! = g d.toList i := by
  unfold g
  by_cases h : i < d.size
  · rw [getElem!_pos d i h]; simp [h]
  · rw [getElem!_neg d i h]; simp [h]; rfl
theorem c_bang (e : It) (j : Nat) (hj : j < 7) : e.c[j]? = some e.c[j]! := by
  have : j = 0 ∨ j = 1 ∨ j = 2 ∨ j = 3 ∨ j = 4 ∨ j = 5 ∨ j = 6 := by omega
  rcases this with rfl | rfl | rfl | rfl | rfl | rfl | rfl <;> rfl
/-- Items at a place, that may be written. -/
def ItsAt (w : World) (b off : Nat) (l : List It) : Prop := ∀ i, i < l.length → ∀ j, j < 7 → w.cell? ⟨b, off + i * 7 + j, none⟩ = (g l i).c[j]? ∧ w.frozen? ⟨b, off + i * 7 + j, none⟩ = false
theorem ItsAt.holds {w : World} {b off : Nat} {l : List It} (h : ItsAt w b off l) : HoldsK It.c 7 w b off l.toArray := by
  intro t ht
  rw [size_flatK] at ht
  have hk : t / 7 < l.length := by have : l.toArray.size = l.length := by simp
                                   omega
  have := h (t / 7) hk (t % 7) (Nat.mod_lt _ (by omega))
  rw [Nat.add_assoc, show t / 7 * 7 + t % 7 = t by omega] at this
  refine ⟨?_, this.2⟩
  rw [this.1, get_flatK _ _ _ _ (by simpa using ht), bang, c_bang _ _ (Nat.mod_lt _ (by omega))]
  rfl
theorem HoldsK.its {w : World} {b off : Nat} {d : Array It} (h : HoldsK It.c 7 w b off d) : ItsAt w b off d.toList := by
  intro i hi j hj
  have hs : d.toList.length = d.size := by simp
  have ht : i * 7 + j < d.size * 7 := by omega
  have := h (i * 7 + j) (by rw [size_flatK]; exact ht)
  rw [← Nat.add_assoc] at this
  refine ⟨?_, this.2⟩
  rw [this.1, get_flatK _ _ _ _ ht, show (i * 7 + j) / 7 = i by omega, show (i * 7 + j) % 7 = j by omega, bang, c_bang _ _ hj]
  rfl
theorem Nd.chg {b : Nat} {w : World} {off m : Nat} {d : Array It} {os : Array Obj} : Chg (fun k => k = b) w (sortWorldK It.c 7 w b off m d os) := by
  unfold sortWorldK grow putRowK putRow mapBlock Sort.ahead
  refine ⟨rfl, rfl, rfl, by simp, fun k hk hb => ?_⟩
  simp only
  rw [Array.getElem?_append_left (by simpa using hk), Array.getElem?_modify, if_neg (fun e => hb e.symm)]
/-- In order: none is ahead of one that stands ahead of it. -/
def Ord (l : List It) : Prop := ∀ i j, i < j → j < l.length → (g l j).less (g l i) = false
set_option maxHeartbeats 1000000 in
theorem sortI_any (w : World) (b off c : Nat) (l : List It) (h : ItsAt w b off l) (hb : b < w.heap.size) (hl : l.length ≤ 1000000) :
    Calls Try.prog 52 #[.slice (some ⟨b, off, none⟩) l.length c, .func (.func 32) #[] #[]] w fun e w' => e = .returned (.tuple #[]) ∧ ∃ l', l'.Perm l ∧ Ord l' ∧ ItsAt w' b off l' ∧ Chg (fun k => k = b) w w' := by
  have eg : ∀ args w, (callFunc 32 args).run Try.prog w = .ok (.enter 32 args) w := enters_of Try.func32 (by kernel_rfl) rfl
  have hc : CmpLays Try.prog 32 #[] It.c 7 It.cmp b off l.toArray.size w := fun m os dk _ x y => (byKeyID_any x y _).mono fun e w' ⟨he, hn⟩ => ⟨he, hn.grown⟩
  have hcon := AnyQ.slices_SortFunc Try.sortI 7 item_agg item_cellsOf It.c (fun _ => rfl) (fun x v hv => It.c_one x v hv) It.cmp cmp_swo 32 #[] b off c l.toArray w eg hc h.holds hb (by simp; omega)
  rw [show l.toArray.size = l.length by simp] at hcon
  refine hcon.mono fun e w' ⟨he, d', m, os, hp, hs, hw⟩ => ⟨he, d'.toList, ?_, fun i j hij hj => ?_, ?_, ?_⟩
  · obtain ⟨hsz, _, hperm⟩ := hp
    rw [show l.toArray.size = l.length by simp] at hsz
    have e1 : d'.extract 0 l.length = d' := by rw [← hsz]; simp
    have e2 : l.toArray.extract 0 l.length = l.toArray := by simp
    rw [e1, e2] at hperm
    exact hperm
  · have hsz : d'.size = l.length := by rw [hp.1]; simp
    have := hs i j (by omega) hij (by rw [← hsz]; simpa using hj)
    rw [lt_is, bang, bang] at this
    exact this
  · rw [hw]
    have hsz : d'.size = l.toArray.size := hp.1
    have h1 : HoldsK It.c 7 (sortWorldK It.c 7 w b off m d' os) b off d' := by
      unfold sortWorldK
      refine holdsK_grow It.c 7 _ os b off d' ?_ (holdsK_putRowK It.c 7 _ b off l.toArray d' (holdsK_ahead It.c 7 w m b off _ h.holds) hsz)
      unfold putRowK putRow mapBlock Sort.ahead
      simpa using hb
    exact HoldsK.its h1
  · rw [hw]; exact Nd.chg
theorem sortI_none (w : World) (A : Option Addr) (c : Nat) (fv : Value) : Calls Try.prog 52 #[.slice A 0 c, fv] w fun e w' => e = .returned (.tuple #[]) ∧ w' = w := AnyF.slices_SortFunc_none Try.sortI A c fv w
end Go.Proofs.Ytghmldfllieonaa
