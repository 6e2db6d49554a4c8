/- Moves of a drawn region's walk by hand: an operation is taken first, or skipped where its guard is false; its slot is named. -/
import Derived.WalkKit
import Derived.Laws.Bits64
import Derived.Laws.BitsAllLaws
import Derived.Deep.LoopGhost
import Derived.Deep.WholeRow
import Derived.Deep.Draws
import Derived.KernelRfl
import Derived.Lib.Hide
import Derived.Lib.SlBytesConst
import Derived.Deep.Cut
import Derived.Deep.CutRange
import Derived.Deep.DeepCutAuto
import Derived.Deep.CutBlock
import Derived.Deep.DeepMust
import Derived.Deep.DeepFit
import Derived.Maps.AppendAt
import Derived.Deep.AppendLies
import Derived.RegionTactic
import Derived.Lib.AppendZerosOnto
import Derived.Lib.Overlaps
import Derived.Lib.SliceRun
import Derived.Deep.RegionHeld3
namespace Go.Proofs.Ytnbcjjgilndlaaa
open Go.RowKit
theorem ret_int {k : IntKind} {a b : Int} (h : a = b) : Ending.returned (.int k a) = .returned (.int k b) := by rw [h]
theorem ret_bool {a b : Bool} (h : a = b) : Ending.returned (.bool a) = .returned (.bool b) := by rw [h]
theorem heap_last (w : World) (o : Obj) {n : Nat} (h : w.heap.size = n) : (w.alloc o).heap[n]? = some o := by subst h; exact heap_alloc_last w o
theorem setRow_last (w : World) (c c' : Array Value) (t : TypeId) {n : Nat} (h : w.heap.size = n) : (w.alloc (.cells c t)).setRow n c' = w.alloc (.cells c' t) := by
  subst h; exact World.setRow_alloc_new w c c' t
theorem add_plain (b off j : Nat) : (⟨b, off, none⟩ : Addr).add j = ⟨b, off + j, none⟩ := by unfold Addr.add; split <;> simp_all
/-- The address A leads to the cells xs (where there is none: anywhere). -/
def Rd (w : World) (A : Option Addr) (xs : List Value) : Prop :=
  xs = [] ∨ ∃ b off, A = some ⟨b, off, none⟩ ∧ ∀ j u, xs[j]? = some u → w.cell? ⟨b, off + j, none⟩ = some u
theorem Rd.nil {w : World} {A : Option Addr} : Rd w A [] := .inl rfl
theorem Rd.get {w : World} {A : Option Addr} {xs : List Value} (h : Rd w A xs) {k : Nat} (hk : k < xs.length) :
    ∃ b off, A = some ⟨b, off, none⟩ ∧ b < w.heap.size ∧ ∀ j u, xs[j]? = some u → w.cell? ⟨b, off + j, none⟩ = some u := by
  rcases h with rfl | ⟨b, off, rfl, hc⟩
  · simp at hk
  · exact ⟨b, off, rfl, World.block_lt_of_cell? w _ (hc k _ (List.getElem?_eq_getElem hk)), hc⟩
theorem Rd.keep {w w' : World} {A : Option Addr} {xs : List Value} (h : Rd w A xs) (hk : ∀ p : Addr, p.block < w.heap.size → w'.cell? p = w.cell? p) : Rd w' A xs := by
  rcases h with rfl | ⟨b, off, rfl, hc⟩
  · exact .inl rfl
  · exact .inr ⟨b, off, rfl, fun j u hu => (hk _ (by have := World.block_lt_of_cell? w _ (hc j u hu); simpa using this)).trans (hc j u hu)⟩
theorem Rd.below {w w' : World} {A : Option Addr} {xs : List Value} {B : Nat} (h : Rd w A xs) (hB : Below B w w') (hs : w.heap.size ≤ B) : Rd w' A xs :=
  h.keep fun p hp => hB.cell (p := p) (by omega)
theorem Rd.of_own {w : World} {base : Nat} {e : TypeId} {size n : Nat} {v : Value} {xs : List Value} (h : w.ownsRow base e size v n xs) :
    ∃ A c, v = .slice A n c ∧ Rd w A xs ∧ n ≤ c ∧ c ≤ maxLen := by
  rcases h.2 with ⟨rfl, rfl⟩ | ⟨g, cap, cur, rfl, hb, hg, hn, hm, hs, ht⟩
  · exact ⟨none, 0, rfl, .inl (List.eq_nil_of_length_eq_zero (by simpa using h.1)), Nat.le_refl _, Nat.zero_le _⟩
  · refine ⟨_, cap, rfl, .inr ⟨g, 0, rfl, fun j u hu => ?_⟩, hn, hm⟩
    rw [cell_of_row w g _ cur e (0, 0) hg, Nat.zero_add]
    rw [← ht, List.getElem?_take] at hu
    split at hu
    · simpa using hu
    · cases hu
theorem Rd.cut {w : World} {A : Option Addr} {xs : List Value} (h : Rd w A xs) {k : Nat} (hk : k < xs.length) :
    ∃ b off, A = some ⟨b, off, none⟩ ∧ Rd w (some ⟨b, off + k, none⟩) (xs.drop k) := by
  obtain ⟨b, off, rfl, hb, hc⟩ := h.get hk
  exact ⟨b, off, rfl, .inr ⟨b, off + k, rfl, fun j u hu => by rw [Nat.add_assoc]; exact hc _ u (by rw [← hu, List.getElem?_drop])⟩⟩
theorem Rd.take {w : World} {A : Option Addr} {xs : List Value} (h : Rd w A xs) (k : Nat) : Rd w A (xs.take k) := by
  rcases h with rfl | ⟨b, off, rfl, hc⟩
  · exact .inl (by simp)
  · refine .inr ⟨b, off, rfl, fun j u hu => hc j u ?_⟩
    rw [List.getElem?_take] at hu
    split at hu
    · exact hu
    · cases hu
section
variable {P : Program} (w : World)
/-- 'append(v, x...)', v of the call's own, x whatever reads so. -/
theorem run_append_rd (base : Nat) (t ty e : TypeId) (i : TypeInfo) (z : Value) (size bytes : Nat) (ht : P.underlying t = some (.slice e)) (hi : P.info? e = some i) (hz : i.zero = some z)
    (hsize : i.size = size) (hby : i.bytes = bytes) (hzs : z.cells.size = size) (hsz : 0 < size)
    (v : Value) (n : Nat) (xs : List Value) (hown : w.ownsRow base e size v n xs)
    (A : Option Addr) (m c : Nat) (news : List Value) (hl : news.length = m * size) (hr : Rd w A news) (h1 : ∀ u ∈ news, u.oneCell' = true)
    (h63 : n + m ≤ maxLen) (hbytes : (n + m) * bytes ≤ 140737488355328) (hbase : base ≤ w.heap.size) :
    ∃ v' w', (Builtin.append_ #[t, t] ty #[v, .slice A m c]).run P w = .ok v' w' ∧ w'.ownsRow base e size v' (n + m) (xs ++ news) ∧ w.grownBy w' v.ownBlock ∧
      (v'.ownBlock = v.ownBlock ∨ v'.ownBlock = some w.heap.size) := by
  have main : ∀ ad : Addr, A = some ad → (∀ j u, news[j]? = some u → w.cell? (ad.add j) = some u) → ∃ v' w', (Builtin.append_ #[t, t] ty #[v, .slice A m c]).run P w = .ok v' w' ∧ w'.ownsRow base e size v' (n + m) (xs ++ news) ∧ w.grownBy w' v.ownBlock ∧
      (v'.ownBlock = v.ownBlock ∨ v'.ownBlock = some w.heap.size) := by
    rintro ad rfl hc
    obtain ⟨v', w', hrun, h2, h3, _, h5⟩ := run_append_own_at (P := P) w base t ty e i z size bytes ht hi hz hsize hby hzs hsz v n xs hown ad m c news hl hc h1 h63 hbytes hbase
    exact ⟨v', w', hrun, h2, h3, h5⟩
  rcases hr with rfl | ⟨b, off, rfl, hc⟩
  · cases A with
    | some ad => exact main ad rfl (fun j u hu => by simp at hu)
    | none =>
      have hm : m = 0 := by
        rcases Nat.eq_zero_or_pos m with h | h
        · exact h
        · have := Nat.mul_pos h hsz
          simp at hl; omega
      subst hm
      refine ⟨v, w, ?_, by simpa using hown, World.grownBy.refl w _, .inl rfl⟩
      rcases hown.2 with ⟨rfl, rfl⟩ | ⟨g, cap, cur, rfl, _, _, hnc, _⟩ <;>
        simp [Builtin.append_, run_underlying ht, sizeOf, typeInfo, Builtin.lenOf, Builtin.firstCells, storeCells, *]
  · exact main _ rfl fun j u hu => by rw [add_plain]; exact hc j u hu
theorem wpList_append_rd {ops : Array Oper} {rest : List Oper} {o : Oper} {a : Act} {Q : Exit → Act → World → Prop} (hgd : o.guard = none) (s x : Operand) (t : TypeId)
    (ho : o.op = .call { callee := .builtin .append, args := #[s, x], argTypes := #[t, t] })
    (base : Nat) (e : TypeId) (i : TypeInfo) (z : Value) (size bytes : Nat) (ht : P.underlying t = some (.slice e)) (hi : P.info? e = some i) (hz : i.zero = some z)
    (hsize : i.size = size) (hby : i.bytes = bytes) (hzs : z.cells.size = size) (hsz : 0 < size)
    (v : Value) (n : Nat) (xs : List Value) (hs : a.eval s = v) (hown : w.ownsRow base e size v n xs)
    (A : Option Addr) (m c : Nat) (news : List Value) (hx : a.eval x = .slice A m c) (hl : news.length = m * size) (hr : Rd w A news) (h1 : ∀ u ∈ news, u.oneCell' = true)
    (h63 : n + m ≤ maxLen) (hbytes : (n + m) * bytes ≤ 140737488355328) (hbase : base ≤ w.heap.size)
    (h : ∀ v' w', w'.ownsRow base e size v' (n + m) (xs ++ news) → w.grownBy w' v.ownBlock → (v'.ownBlock = v.ownBlock ∨ v'.ownBlock = some w.heap.size) → wpList P ops Q rest (a.put o.dst v') w') : wpList P ops Q (o :: rest) a w :=
  wpList_plain hgd fun _ hK => by
    obtain ⟨v', w', hrun, h2, h3, h4⟩ := run_append_rd (P := P) w base t o.type e i z size bytes ht hi hz hsize hby hzs hsz v n xs hown A m c news hl hr h1 h63 hbytes hbase
    unfold Oper.wp execOp
    simp only [ho, resolve, invoke, builtin, Sem.run_bind, Sem.run_pure, Result.andThen_ok, List.map_toArray, List.map_cons, List.map_nil, hs, hx, hrun]
    exact hK _ _ (h v' w' h2 h3 h4)
end
/-- bytes as cells -/
def bcells (l : List UInt8) : List Value := l.map fun x => .int .u8 (x.toNat : Int)
theorem bcells_length (l : List UInt8) : (bcells l).length = l.length := by simp [bcells]
theorem bcells_one (l : List UInt8) : ∀ u ∈ bcells l, u.oneCell' = true := by
  intro u hu; simp [bcells] at hu; obtain ⟨x, _, rfl⟩ := hu; rfl
/-- A slice of bytes that reads as l. -/
def BytesAt (w : World) (a : Option Addr) (l : List UInt8) : Prop := Rd w a (bcells l)
theorem BytesAt.get {w : World} {a : Option Addr} {l : List UInt8} (h : BytesAt w a l) {k : Nat} (hk : k < l.length) :
    ∃ b off, a = some ⟨b, off, none⟩ ∧ b < w.heap.size ∧ w.cell? ⟨b, off + k, none⟩ = some (.int .u8 (l[k].toNat : Int)) := by
  obtain ⟨b, off, rfl, hb, hc⟩ := Rd.get h (k := k) (by simpa [bcells] using hk)
  exact ⟨b, off, rfl, hb, hc k _ (by simp [bcells, hk])⟩
theorem BytesAt.below {w w' : World} {B : Nat} {a : Option Addr} {l : List UInt8} (h : BytesAt w a l) (hB : Below B w w') (hs : w.heap.size ≤ B) : BytesAt w' a l := Rd.below h hB hs
theorem BytesAt.take {w : World} {a : Option Addr} {l : List UInt8} (h : BytesAt w a l) (k : Nat) : BytesAt w a (l.take k) := by
  have := Rd.take h k; unfold BytesAt bcells at *; rwa [List.map_take]
theorem bytesAt_new (w : World) (l : List UInt8) (t : TypeId) (fr : Nat × Nat) : BytesAt (w.alloc (.cells (l.map fun x => Value.int .u8 x.toNat).toArray t fr)) (some ⟨w.heap.size, 0, none⟩) l := by
  refine .inr ⟨_, _, rfl, fun j u hu => ?_⟩
  rw [cell_of_row _ _ _ _ t fr (heap_alloc_last w _)]
  simpa [bcells] using hu
/-- 'string(b)' -/
theorem BytesAt.str {P : Program} {w : World} {a : Option Addr} {l : List UInt8} (h : BytesAt w a l) (src e dst : TypeId) (c : Nat)
    (hs : P.underlying src = some (.slice e)) (he : P.underlying e = some (.int .u8)) (hd : P.underlying dst = some .string) :
    (convert src dst (.slice a l.length c)).run P w = .ok (.string ⟨l.toArray⟩) w := by
  rw [run_convert_bytes_string w src dst e _ _ _ hs he hd]
  have hfold : ∀ (ns : List UInt8) (s : ByteArray), (ns.map fun x => (x.toNat : Int)).foldl (fun r n => r.push (UInt8.ofNat n.toNat)) s = ⟨s.data ++ ns.toArray⟩ := by
    intro ns
    induction ns with
    | nil => intro s; simp
    | cons x ns ih =>
      intro s
      simp only [List.map_cons, List.foldl_cons, ih]
      simp [ByteArray.push]
  have hbc : bcells l = (l.map fun x => (x.toNat : Int)).map (Value.int .u8) := by simp [bcells]
  cases a with
  | none =>
    have hl : l = [] := by
      rcases h with h | ⟨b, off, h, _⟩
      · simpa [bcells] using h
      · cases h
    subst hl
    simp [Conv.bytesToString, ByteArray.empty, ByteArray.emptyWithCapacity]
    rfl
  | some ad =>
    have hcells : (loadCells ad l.length).run P w = .ok ((l.map fun x => (x.toNat : Int)).map (Value.int .u8)).toArray w := by
      have := run_loadCells_list (P := P) w ad (bcells l) (fun j v hj => by
        rcases h with h | ⟨b, off, h, hc⟩
        · rw [h] at hj; simp at hj
        · injection h with h; subst h; rw [add_plain]; exact hc j v hj)
      rw [bcells_length] at this
      rw [this, hbc]
    rw [run_bytesToString w ad l.length c _ hcells, hfold]
    simp [ByteArray.empty, ByteArray.emptyWithCapacity]
    rfl
theorem BytesAt.drew {w : World} {a : Option Addr} {l : List UInt8} (h : BytesAt w a l) : BytesAt w.drew a l := h
theorem BytesAt.cut {w : World} {a : Option Addr} {l : List UInt8} (h : BytesAt w a l) (cap : Nat) {k : Nat} (hk : k ≤ l.length) (hc : l.length ≤ cap) :
    BytesAt w (if cap = k then a else Option.map (fun x => x.add k) a) (l.drop k) := by
  rcases h with h | ⟨b, off, rfl, hc'⟩
  · have : l = [] := by simpa [bcells] using h
    subst this
    exact .inl (by simp [bcells])
  · by_cases e : cap = k
    · have : l.drop k = [] := List.drop_eq_nil_of_le (by omega)
      rw [this]; exact .inl rfl
    · rw [if_neg e]
      refine .inr ⟨b, off + k, by simp [add_plain], fun j u hu => ?_⟩
      rw [Nat.add_assoc]
      refine hc' _ u ?_
      rw [← hu]; simp [bcells]
theorem isRow_bytes {w : World} {a : Option Addr} {len cap : Nat} {zs : List Int} (h : (a = none ∧ len = 0 ∧ cap = 0 ∧ zs = []) ∨
  ∃ x, a = some x ∧ len ≤ cap ∧ cap ≤ maxLen ∧ zs.length = cap ∧ (∀ i, i < zs.length → w.cell? (x.add i) = some (.int .u8 (zs.getD i 0))) ∧ ∀ n ∈ zs, (Lit.int .u8 n).wf = true) :
    ∃ l : List UInt8, l.length = len ∧ BytesAt w a l ∧ len ≤ cap ∧ cap ≤ maxLen := by
  rcases h with ⟨rfl, rfl, rfl, rfl⟩ | ⟨x, rfl, hl, hm, hz, hc, hw⟩
  · exact ⟨[], rfl, .inl rfl, Nat.le_refl _, Nat.zero_le _⟩
  · refine ⟨(zs.take len).map (fun z => UInt8.ofNat z.toNat), by simp; omega, ?_, hl, hm⟩
    have hval : ∀ j, j < zs.length → ((UInt8.ofNat (zs.getD j 0).toNat).toNat : Int) = zs.getD j 0 := by
      intro j hj
      have : zs.getD j 0 ∈ zs := by rw [List.getD_eq_getElem?_getD, List.getElem?_eq_getElem hj]; simp
      have := hw _ this
      generalize zs.getD j 0 = z at this ⊢
      simp [Lit.wf, IntKind.min, IntKind.max, IntKind.bits, IntKind.signed] at this
      simp only [UInt8.toNat_ofNat']
      omega
    by_cases h0 : len = 0
    · left; subst h0; simp [bcells]
    · obtain ⟨b, off, spot⟩ := x
      have h00 := hc 0 (by omega)
      have hspot : spot = none := by simpa [Addr.add] using World.cell?_spot h00
      subst hspot
      refine .inr ⟨b, off, rfl, fun j u hu => ?_⟩
      have hj : j < len ∧ j < zs.length := by
        have : j < (bcells ((zs.take len).map (fun z => UInt8.ofNat z.toNat))).length := by
          rcases Nat.lt_or_ge j (bcells ((zs.take len).map (fun z => UInt8.ofNat z.toNat))).length with h | h
          · exact h
          · rw [List.getElem?_eq_none h] at hu; cases hu
        simp [bcells] at this; omega
      have := hc j hj.2
      rw [add_plain] at this
      rw [this, ← hval j hj.2]
      rw [← hu]
      simp [bcells, hj.1, List.getD_eq_getElem?_getD, List.getElem?_eq_getElem hj.2]
theorem wf_u32 {n : Int} (h : (Lit.int .u32 n).wf = true) : ∃ C : BitVec 32, n = (C.toNat : Int) := by
  refine ⟨BitVec.ofNat 32 n.toNat, ?_⟩
  simp [Lit.wf, IntKind.min, IntKind.max, IntKind.bits, IntKind.signed] at h
  rw [BitVec.toNat_ofNat]; omega
theorem wf_i64 {n : Int} (h : (Lit.int .i64 n).wf = true) : -9223372036854775808 ≤ n ∧ n ≤ 9223372036854775807 := by
  simp [Lit.wf, IntKind.min, IntKind.max, IntKind.bits, IntKind.signed] at h
  omega
end Go.Proofs.Ytnbcjjgilndlaaa
/- Words for memory that is changed: which blocks may turn, blocks known whole, slices that own their array at any place in it. -/
namespace Go.Proofs.Ytnbcjjgilndlaaa
open Go.RowKit
/-- Of what was there, the blocks that M names alone may have turned. -/
structure Chg (M : Nat → Prop) (w w' : World) : Prop where
  os : w'.os = w.os
  tape : w'.tape = w.tape
  output : w'.output = w.output
  size : w.heap.size ≤ w'.heap.size
  block : ∀ k, k < w.heap.size → ¬ M k → w'.heap[k]? = w.heap[k]?
theorem Chg.refl (M : Nat → Prop) (w : World) : Chg M w w := ⟨rfl, rfl, rfl, Nat.le_refl _, fun _ _ _ => rfl⟩
theorem Chg.trans {M M' : Nat → Prop} {a b c : World} (h : Chg M a b) (k : Chg M' b c) (hM : ∀ i, i < a.heap.size → M' i → M i) : Chg M a c :=
  ⟨k.os.trans h.os, k.tape.trans h.tape, k.output.trans h.output, Nat.le_trans h.size k.size,
    fun i hi hn => (k.block i (Nat.lt_of_lt_of_le hi h.size) (fun hm => hn (hM i hi hm))).trans (h.block i hi hn)⟩
theorem Chg.mono {M M' : Nat → Prop} {a b : World} (h : Chg M a b) (hM : ∀ i, i < a.heap.size → M i → M' i) : Chg M' a b :=
  ⟨h.os, h.tape, h.output, h.size, fun i hi hn => h.block i hi (fun hm => hn (hM i hi hm))⟩
theorem Chg.of_below {B : Nat} {a b : World} (h : Below B a b) (hB : a.heap.size ≤ B) (M : Nat → Prop) : Chg M a b :=
  ⟨h.os, h.tape, h.output, h.size, fun i hi _ => h.block i (by omega)⟩
theorem Chg.below {M : Nat → Prop} {a b : World} (h : Chg M a b) {B : Nat} (hM : ∀ i, i < a.heap.size → M i → B ≤ i) (hB : B ≤ a.heap.size) : Below B a b :=
  ⟨h.os, h.tape, h.output, h.size, fun i hi => h.block i (by omega) (fun hm => by have := hM i (by omega) hm; omega)⟩
theorem Chg.drew {M : Nat → Prop} {a b : World} (h : Chg M a b) : Chg M a b.drew := ⟨h.os, h.tape, h.output, h.size, h.block⟩
theorem Chg.alloc {M : Nat → Prop} {a b : World} (h : Chg M a b) (o : Obj) : Chg M a (b.alloc o) :=
  ⟨h.os, h.tape, h.output, Nat.le_trans h.size (by simp), fun i hi hn => (Below.heap_alloc b o i (Nat.lt_of_lt_of_le hi h.size)).trans (h.block i hi hn)⟩
theorem Chg.setCell {M : Nat → Prop} {a b : World} (h : Chg M a b) {p : Addr} (hp : M p.block ∨ a.heap.size ≤ p.block) (u : Value) : Chg M a (b.setCell p u) :=
  ⟨h.os, h.tape, h.output, by simpa [World.setCell] using h.size, fun i hi hn => (Below.heap_setCell b p u i (by
    rintro rfl
    rcases hp with hp | hp
    · exact hn hp
    · omega)).trans (h.block i hi hn)⟩
theorem Chg.setRow {M : Nat → Prop} {a b : World} (h : Chg M a b) {g : Nat} (hg : M g ∨ a.heap.size ≤ g) (cs : Array Value) : Chg M a (b.setRow g cs) :=
  ⟨h.os, h.tape, h.output, by simpa [World.setRow] using h.size, fun i hi hn => by
    rw [← h.block i hi hn]
    simp only [World.setRow, Array.getElem?_modify]
    rw [if_neg]
    rintro rfl
    rcases hg with hp | hp
    · exact hn hp
    · omega⟩
/-- A block that is known whole. -/
def Blk (w : World) (g : Nat) (t : TypeId) (cs : Array Value) : Prop := w.heap[g]? = some (.cells cs t (0, 0))
theorem Blk.lt {w : World} {g : Nat} {t : TypeId} {cs : Array Value} (h : Blk w g t cs) : g < w.heap.size := by
  rcases Nat.lt_or_ge g w.heap.size with hlt | hge
  · exact hlt
  · unfold Blk at h; rw [Array.getElem?_eq_none hge] at h; cases h
theorem Blk.cell {w : World} {g : Nat} {t : TypeId} {cs : Array Value} (h : Blk w g t cs) (i : Nat) : w.cell? ⟨g, i, none⟩ = cs[i]? := cell_of_row w g i cs t (0, 0) h
theorem Blk.frozen {w : World} {g : Nat} {t : TypeId} {cs : Array Value} (h : Blk w g t cs) (i : Nat) : w.frozen? ⟨g, i, none⟩ = false := by
  unfold Blk at h; simp [World.frozen?, h]
theorem Blk.chg {M : Nat → Prop} {w w' : World} {g : Nat} {t : TypeId} {cs : Array Value} (h : Blk w g t cs) (hc : Chg M w w') (hg : ¬ M g) : Blk w' g t cs := (hc.block g h.lt hg).trans h
theorem Blk.below {w w' : World} {g : Nat} {t : TypeId} {cs : Array Value} {B : Nat} (h : Blk w g t cs) (hB : Below B w w') (hg : g < B) : Blk w' g t cs := (hB.block g hg).trans h
theorem Blk.drew {w : World} {g : Nat} {t : TypeId} {cs : Array Value} (h : Blk w g t cs) : Blk w.drew g t cs := h
theorem Blk.alloc {w : World} {g : Nat} {t : TypeId} {cs : Array Value} (h : Blk w g t cs) (o : Obj) : Blk (w.alloc o) g t cs := (Below.heap_alloc w o g h.lt).trans h
theorem Blk.last (w : World) (t : TypeId) (cs : Array Value) {n : Nat} (h : w.heap.size = n) : Blk (w.alloc (.cells cs t)) n t cs := heap_last w _ h
theorem Blk.set_ {w : World} {g : Nat} {t : TypeId} {cs : Array Value} (h : Blk w g t cs) (i : Nat) (u : Value) : Blk (w.setCell ⟨g, i, none⟩ u) g t (cs.setIfInBounds i u) := by
  unfold Blk at h ⊢
  simp [World.setCell, Array.getElem?_modify, h]
theorem Blk.far {w : World} {g : Nat} {t : TypeId} {cs : Array Value} (h : Blk w g t cs) {p : Addr} (hp : g ≠ p.block) (u : Value) : Blk (w.setCell p u) g t cs := (Below.heap_setCell w p u g hp).trans h
theorem Blk.ne_ {w : World} {g g' : Nat} {t t' : TypeId} {cs cs' : Array Value} (h : Blk w g t cs) (h' : Blk w g' t' cs') (hne : t ≠ t') : g ≠ g' := by
  rintro rfl
  unfold Blk at h h'
  rw [h] at h'
  injection h' with h'
  injection h' with _ ht
  exact hne ht
/-- The slice v (n elements of type e, 'size' cells each) owns its array, block 'blk': the cells xs stand first, what is behind them up to the capacity may be written. -/
def Own (w : World) (e : TypeId) (size : Nat) (v : Value) (n : Nat) (xs : List Value) (blk : Option Nat) : Prop :=
  xs.length = n * size ∧ ∃ A c, v = .slice A n c ∧ n ≤ c ∧ c ≤ maxLen ∧
    ((c = 0 ∧ blk = none) ∨ ∃ g off cur, A = some ⟨g, off, none⟩ ∧ blk = some g ∧ Blk w g e cur ∧ off + c * size ≤ cur.size ∧ (cur.toList.drop off).take (n * size) = xs)
theorem Own.nil (w : World) (e : TypeId) (size : Nat) : Own w e size (.slice none 0 0) 0 [] none := ⟨by simp, none, 0, rfl, Nat.le_refl _, Nat.zero_le _, .inl ⟨rfl, rfl⟩⟩
theorem Own.lt {w : World} {e : TypeId} {size : Nat} {v : Value} {n : Nat} {xs : List Value} {blk : Option Nat} (h : Own w e size v n xs blk) : ∀ g, blk = some g → g < w.heap.size := by
  rintro g rfl
  obtain ⟨_, A, c, _, _, _, h | ⟨g', off, cur, _, hb, hg, _⟩⟩ := h
  · cases h.2
  · injection hb with hb; subst hb; exact hg.lt
theorem Own.kept {w w' : World} {e : TypeId} {size : Nat} {v : Value} {n : Nat} {xs : List Value} {blk : Option Nat} (h : Own w e size v n xs blk) (hk : ∀ g, blk = some g → w'.heap[g]? = w.heap[g]?) : Own w' e size v n xs blk := by
  obtain ⟨hl, A, c, rfl, hn, hm, h | ⟨g, off, cur, rfl, rfl, hg, h1, h2⟩⟩ := h
  · exact ⟨hl, A, c, rfl, hn, hm, .inl h⟩
  · exact ⟨hl, _, c, rfl, hn, hm, .inr ⟨g, off, cur, rfl, rfl, (hk g rfl).trans hg, h1, h2⟩⟩
theorem Own.chg {M : Nat → Prop} {w w' : World} {e : TypeId} {size : Nat} {v : Value} {n : Nat} {xs : List Value} {blk : Option Nat} (h : Own w e size v n xs blk) (hc : Chg M w w') (hM : ∀ g, blk = some g → ¬ M g) : Own w' e size v n xs blk :=
  h.kept fun g hg => hc.block g (h.lt g hg) (hM g hg)
theorem Own.rd {w : World} {e : TypeId} {size : Nat} {v : Value} {n : Nat} {xs : List Value} {blk : Option Nat} (h : Own w e size v n xs blk) : ∃ A c, v = .slice A n c ∧ Rd w A xs ∧ n ≤ c ∧ c ≤ maxLen := by
  obtain ⟨hl, A, c, rfl, hn, hm, h | ⟨g, off, cur, rfl, rfl, hg, h1, h2⟩⟩ := h
  · refine ⟨A, c, rfl, .inl ?_, hn, hm⟩
    have : n = 0 := by omega
    subst this
    exact List.eq_nil_of_length_eq_zero (by simpa using hl)
  · refine ⟨_, c, rfl, .inr ⟨g, off, rfl, fun j u hu => ?_⟩, hn, hm⟩
    rw [hg.cell]
    rw [← h2, List.getElem?_take] at hu
    split at hu
    · rw [List.getElem?_drop] at hu; simpa using hu
    · cases hu
section
variable {P : Program} (w : World)
/-- 'append(v, x...)' where v owns its array, at whatever place in it. -/
theorem run_append_at (t ty e : TypeId) (i : TypeInfo) (z : Value) (size bytes : Nat) (ht : P.underlying t = some (.slice e)) (hi : P.info? e = some i) (hz : i.zero = some z)
    (hsize : i.size = size) (hby : i.bytes = bytes) (hzs : z.cells.size = size) (hsz : 0 < size)
    (v : Value) (n : Nat) (xs : List Value) (blk : Option Nat) (hown : Own w e size v n xs blk)
    (A : Option Addr) (m c : Nat) (news : List Value) (hl : news.length = m * size) (hr : Rd w A news) (h1 : ∀ u ∈ news, u.oneCell' = true)
    (h63 : n + m ≤ maxLen) (hbytes : (n + m) * bytes ≤ 140737488355328) :
    ∃ v' w' blk', (Builtin.append_ #[t, t] ty #[v, .slice A m c]).run P w = .ok v' w' ∧ Own w' e size v' (n + m) (xs ++ news) blk' ∧ Chg (fun k => some k = blk) w w' ∧
      (blk' = blk ∨ blk' = some w.heap.size) := by
  subst hsize
  subst hby
  have hsmall : n + m ≤ 9223372036854775807 := by simp only [maxLen] at h63; omega
  obtain ⟨hxl, B, cap, rfl, hnc, hcm, hrest⟩ := hown
  -- nothing is appended
  rcases Nat.eq_zero_or_pos m with hm0 | hmp
  · subst hm0
    have hnw : news = [] := List.eq_nil_of_length_eq_zero (by simpa using hl)
    subst hnw
    refine ⟨.slice B n cap, w, blk, ?_, by rw [Nat.add_zero, List.append_nil]; exact ⟨hxl, B, cap, rfl, hnc, hcm, hrest⟩, Chg.refl _ _, .inl rfl⟩
    cases A <;> cases B <;> simp [Builtin.append_, run_underlying ht, sizeOf, typeInfo, hi, Builtin.lenOf, Builtin.firstCells, hnc, storeCells, loadCells, loadCellsFrom]
  · obtain ⟨b, off0, rfl, _, hcell⟩ := hr.get (k := 0) (by rw [hl]; exact Nat.mul_pos hmp hsz)
    have hnews : ∀ j u, news[j]? = some u → w.cell? ((⟨b, off0, none⟩ : Addr).add j) = some u := fun j u hu => by rw [add_plain]; exact hcell j u hu
    have hlen : (xs ++ news).length = (n + m) * i.size := by rw [List.length_append, hxl, hl, Nat.add_mul]
    have grown : ∀ (old : Nat), Own (w.drew.alloc (.cells (xs.toArray ++ news.toArray ++ Builtin.zeroCells z.cells (grownCap w (n + m) old e - (n + m))) e)) e i.size
          (.slice (some ⟨w.heap.size, 0, none⟩) (n + m) (grownCap w (n + m) old e)) (n + m) (xs ++ news) (some w.heap.size) ∧
        Chg (fun k => some k = blk) w (w.drew.alloc (.cells (xs.toArray ++ news.toArray ++ Builtin.zeroCells z.cells (grownCap w (n + m) old e - (n + m))) e)) := by
      intro old
      have hge := grownCap_ge w (n + m) old e
      have hcm' : grownCap w (n + m) old e ≤ maxLen := grownCap_le_maxLen w (n + m) old e h63
      refine ⟨⟨hlen, _, _, rfl, hge, hcm', .inr ⟨w.heap.size, 0, _, rfl, rfl, heap_last w.drew _ rfl, ?_, ?_⟩⟩, (Chg.refl _ w).drew.alloc _⟩
      · simp only [Array.size_append, List.size_toArray, size_zeroCells, hzs, hxl, hl, ← Nat.add_mul]
        rw [Nat.zero_add]
        exact Nat.mul_le_mul_right _ (by omega)
      · simp only [Array.toList_append, List.append_assoc, List.drop_zero]
        rw [← List.append_assoc, ← hlen]
        exact List.take_left
    rcases hrest with ⟨rfl, rfl⟩ | ⟨g, off, cur, rfl, rfl, hg, hfit, htake⟩
    · have hn0 : n = 0 := by omega
      subst hn0
      have hx : xs = [] := List.eq_nil_of_length_eq_zero (by simpa using hxl)
      subst hx
      have hgr := grown 0
      simp only [Nat.zero_add, List.nil_append, Array.empty_append] at hgr ⊢
      cases B with
      | none =>
        have hrun := run_append_nil (P := P) w t ty e i z ht hi hz ⟨b, off0, none⟩ m c news hl hnews hmp (by omega) (by have hb := hbytes; simp only [Nat.zero_add] at hb; omega)
        exact ⟨_, _, _, hrun, hgr.1, hgr.2, .inr rfl⟩
      | some ad =>
        have hrun := run_append_grow (P := P) w t ty e i z ht hi hz ad 0 0 [] (by simp) (by simp) ⟨b, off0, none⟩ m c news hl hnews (by omega) (by omega) (by
          have := growslice_fits (need := 0 + m) (old := 0) (bytes := i.bytes) (by omega) hbytes; simpa using this)
        simp only [Nat.zero_add, Array.empty_append] at hrun
        exact ⟨_, _, _, hrun, hgr.1, hgr.2, .inr rfl⟩
    · by_cases hroom : n + m ≤ cap
      · have hnm : (n + m) * i.size ≤ cap * i.size := Nat.mul_le_mul_right _ hroom
        have hmn := Nat.add_mul n m i.size
        have hf := run_firstCells_some (P := P) w i.size m ⟨b, off0, none⟩ m c news hl hnews
        have hst := run_storeCells_at P g (off + n * i.size) e news 0 cur w hg (by simp only [Nat.add_zero]; omega) h1
        simp only [Nat.add_zero] at hst
        have hrun : (Builtin.append_ #[t, t] ty #[.slice (some ⟨g, off, none⟩) n cap, .slice (some ⟨b, off0, none⟩) m c]).run P w =
            .ok (.slice (some ⟨g, off, none⟩) (n + m) cap) (w.setRow g (cur.toList.take (off + n * i.size) ++ news ++ cur.toList.drop (off + n * i.size + news.length)).toArray) := by
          simp [Builtin.append_, run_underlying ht, sizeOf, typeInfo, hi, Builtin.lenOf, hroom, hf, add_plain, hst]
        have hcl : off + n * i.size ≤ cur.toList.length := by rw [Array.length_toList]; omega
        refine ⟨_, _, some g, hrun, ⟨hlen, _, cap, rfl, hroom, hcm, .inr ⟨g, off, _, rfl, rfl, setRow_heap w g cur _ e _ hg, ?_, ?_⟩⟩, Chg.setRow (M := fun k => some k = some g) (Chg.refl _ w) (.inl rfl) _, .inl rfl⟩
        · simp only [List.size_toArray, List.length_append, List.length_take, List.length_drop, Array.length_toList]
          omega
        · have e1 : List.drop off (List.take (off + n * i.size) cur.toList) = xs := by
            rw [List.drop_take, Nat.add_sub_cancel_left]; exact htake
          have e2 : off ≤ (List.take (off + n * i.size) cur.toList).length := by rw [List.length_take]; omega
          simp only [List.append_assoc]
          rw [List.drop_append_of_le_length e2, e1, ← List.append_assoc, ← hlen]
          exact List.take_left
      · have holds : ∀ j u, xs[j]? = some u → w.cell? ((⟨g, off, none⟩ : Addr).add j) = some u := fun j u hu => by
          rw [add_plain, hg.cell]
          rw [← htake, List.getElem?_take] at hu
          split at hu
          · rw [List.getElem?_drop] at hu; simpa using hu
          · cases hu
        have hrun := run_append_grow (P := P) w t ty e i z ht hi hz ⟨g, off, none⟩ n cap xs hxl holds ⟨b, off0, none⟩ m c news hl hnews (by omega) (by omega) (growslice_fits (by omega) hbytes)
        have hgr := grown cap
        exact ⟨_, _, _, hrun, hgr.1, hgr.2, .inr rfl⟩
theorem wp_append_at {o : Oper} {a : Act} {K : Act → World → Prop} {Q : Exit → Act → World → Prop} (s x : Operand) (t : TypeId)
    (ho : o.op = .call { callee := .builtin .append, args := #[s, x], argTypes := #[t, t] })
    (e : TypeId) (i : TypeInfo) (z : Value) (size bytes : Nat) (ht : P.underlying t = some (.slice e)) (hi : P.info? e = some i) (hz : i.zero = some z)
    (hsize : i.size = size) (hby : i.bytes = bytes) (hzs : z.cells.size = size) (hsz : 0 < size)
    (v : Value) (n : Nat) (xs : List Value) (blk : Option Nat) (hs : a.eval s = v) (hown : Own w e size v n xs blk)
    (A : Option Addr) (m c : Nat) (news : List Value) (hx : a.eval x = .slice A m c) (hl : news.length = m * size) (hr : Rd w A news) (h1 : ∀ u ∈ news, u.oneCell' = true)
    (h63 : n + m ≤ maxLen) (hbytes : (n + m) * bytes ≤ 140737488355328)
    (h : ∀ A' c' w' blk', Own w' e size (.slice A' (n + m) c') (n + m) (xs ++ news) blk' → Chg (fun k => some k = blk) w w' → (blk' = blk ∨ blk' = some w.heap.size) → K (a.put o.dst (.slice A' (n + m) c')) w') : o.wp P a w K Q := by
  obtain ⟨v', w', blk', hrun, h2, h3, h4⟩ := run_append_at (P := P) w t o.type e i z size bytes ht hi hz hsize hby hzs hsz v n xs blk hown A m c news hl hr h1 h63 hbytes
  obtain ⟨A', c', rfl, _⟩ := h2.rd
  unfold Oper.wp execOp
  simp only [ho, resolve, invoke, builtin, Sem.run_bind, Sem.run_pure, Result.andThen_ok, List.map_toArray, List.map_cons, List.map_nil, hs, hx, hrun]
  exact h A' c' w' blk' h2 h3 h4
theorem wpList_append_at {ops : Array Oper} {rest : List Oper} {o : Oper} {a : Act} {Q : Exit → Act → World → Prop} (hgd : o.guard = none) (s x : Operand) (t : TypeId)
    (ho : o.op = .call { callee := .builtin .append, args := #[s, x], argTypes := #[t, t] })
    (e : TypeId) (i : TypeInfo) (z : Value) (size bytes : Nat) (ht : P.underlying t = some (.slice e)) (hi : P.info? e = some i) (hz : i.zero = some z)
    (hsize : i.size = size) (hby : i.bytes = bytes) (hzs : z.cells.size = size) (hsz : 0 < size)
    (v : Value) (n : Nat) (xs : List Value) (blk : Option Nat) (hs : a.eval s = v) (hown : Own w e size v n xs blk)
    (A : Option Addr) (m c : Nat) (news : List Value) (hx : a.eval x = .slice A m c) (hl : news.length = m * size) (hr : Rd w A news) (h1 : ∀ u ∈ news, u.oneCell' = true)
    (h63 : n + m ≤ maxLen) (hbytes : (n + m) * bytes ≤ 140737488355328)
    (h : ∀ A' c' w' blk', Own w' e size (.slice A' (n + m) c') (n + m) (xs ++ news) blk' → Chg (fun k => some k = blk) w w' → (blk' = blk ∨ blk' = some w.heap.size) → wpList P ops Q rest (a.put o.dst (.slice A' (n + m) c')) w') : wpList P ops Q (o :: rest) a w :=
  wpList_plain hgd fun _ hK => wp_append_at w s x t ho e i z size bytes ht hi hz hsize hby hzs hsz v n xs blk hs hown A m c news hx hl hr h1 h63 hbytes fun A' c' w' blk' h2 h3 h4 => hK _ _ (h A' c' w' blk' h2 h3 h4)
theorem step_append_at {ops : Array Oper} {o : Oper} {a : Act} {K : Act → World → Prop} {Q : Exit → Act → World → Prop} {E : Prop} (hgd : o.guard = none) (s x : Operand) (t : TypeId)
    (ho : o.op = .call { callee := .builtin .append, args := #[s, x], argTypes := #[t, t] })
    (e : TypeId) (i : TypeInfo) (z : Value) (size bytes : Nat) (ht : P.underlying t = some (.slice e)) (hi : P.info? e = some i) (hz : i.zero = some z)
    (hsize : i.size = size) (hby : i.bytes = bytes) (hzs : z.cells.size = size) (hsz : 0 < size)
    (v : Value) (n : Nat) (xs : List Value) (blk : Option Nat) (hs : a.eval s = v) (hown : Own w e size v n xs blk)
    (A : Option Addr) (m c : Nat) (news : List Value) (hx : a.eval x = .slice A m c) (hl : news.length = m * size) (hr : Rd w A news) (h1 : ∀ u ∈ news, u.oneCell' = true)
    (h63 : n + m ≤ maxLen) (hbytes : (n + m) * bytes ≤ 140737488355328)
    (h : ∀ A' c' w' blk', Own w' e size (.slice A' (n + m) c') (n + m) (xs ++ news) blk' → Chg (fun k => some k = blk) w w' → (blk' = blk ∨ blk' = some w.heap.size) → K (a.put o.dst (.slice A' (n + m) c')) w') :
    if Region.wanted o (yielded ops a.tmps) = true then Oper.wp P o a w K Q else E := by
  rw [if_pos (by simp [Region.wanted, hgd])]
  exact wp_append_at w s x t ho e i z size bytes ht hi hz hsize hby hzs hsz v n xs blk hs hown A m c news hx hl hr h1 h63 hbytes h
end
end Go.Proofs.Ytnbcjjgilndlaaa
/- More small words: worlds behind many draws, results of two numbers. -/
namespace Go.Proofs.Ytnbcjjgilndlaaa
open Go.RowKit
theorem Below.many {B : Nat} {a w : World} (h : Below B a w) (n : Nat) : Below B a (w.drewN n) := h.trans ⟨rfl, rfl, rfl, Nat.le_refl _, fun _ _ => rfl⟩
theorem Chg.many {M : Nat → Prop} {a w : World} (h : Chg M a w) (n : Nat) : Chg M a (w.drewN n) := ⟨h.os, h.tape, h.output, h.size, h.block⟩
theorem ret_pair {k l : IntKind} {a b c d : Int} (h : a = b) (h2 : c = d) : Ending.returned (.tuple #[.int k a, .int l c]) = .returned (.tuple #[.int k b, .int l d]) := by rw [h, h2]
theorem bcell {B : Nat} {W w1 : World} (hb : Below B W w1) : (∀ b o, b < B → w1.cell? ⟨b, o, none⟩ = W.cell? ⟨b, o, none⟩) ∧ (∀ b o, b < B → w1.frozen? ⟨b, o, none⟩ = W.frozen? ⟨b, o, none⟩) :=
  ⟨fun b o h => hb.cell (p := ⟨b, o, none⟩) h, fun b o h => hb.frozen (p := ⟨b, o, none⟩) h⟩
/-- W is w with new blocks. -/
def Nw (w W : World) : Prop := Below w.heap.size w W
theorem Nw.refl (w : World) : Nw w w := Below.refl _ _
theorem Nw.step {w W W' : World} (h : Nw w W) (hB : Below W.heap.size W W') : Nw w W' := Below.trans h (hB.mono h.size)
theorem Nw.drew {w W : World} (h : Nw w W) : Nw w W.drew := Below.drew h
theorem Nw.cell {w W : World} (h : Nw w W) {p : Addr} {v : Value} (c : w.cell? p = some v) : W.cell? p = some v := (Below.cell h (World.block_lt_of_cell? w p c)).trans c
theorem Nw.frozen {w W : World} (h : Nw w W) {p : Addr} {v : Value} (c : w.cell? p = some v) (z : w.frozen? p = false) : W.frozen? p = false := (Below.frozen h (World.block_lt_of_cell? w p c)).trans z
theorem Nw.alloc {w W : World} (h : Nw w W) (o : Obj) : Nw w (W.alloc o) := Below.alloc h h.size o
theorem Nw.set {w W : World} (h : Nw w W) {p : Addr} (hp : w.heap.size ≤ p.block) (v : Value) : Nw w (W.setCell p v) := Below.setCell h hp v
end Go.Proofs.Ytnbcjjgilndlaaa
/- Laws for copy and clear on a block that is known whole, at elements of several cells; lists laid over lists. -/
namespace Go.Proofs.Ytnbcjjgilndlaaa
open Go.RowKit
set_option linter.unusedVariables false
set_option linter.unusedSimpArgs false
/-- The list l with s laid over it from p on. -/
def lay {α : Type} (l : List α) (p : Nat) (s : List α) : List α := l.take p ++ s ++ l.drop (p + s.length)
theorem lay_length {α : Type} (l : List α) (p : Nat) (s : List α) (h : p + s.length ≤ l.length) : (lay l p s).length = l.length := by
  unfold lay; simp only [List.length_append, List.length_take, List.length_drop]; omega
theorem lay_get {α : Type} (l : List α) (p : Nat) (s : List α) (h : p + s.length ≤ l.length) (j : Nat) : (lay l p s)[j]? = if j < p then l[j]? else if j < p + s.length then s[j - p]? else l[j]? := by
  unfold lay
  by_cases h1 : j < p
  · rw [if_pos h1, List.append_assoc, List.getElem?_append_left (by rw [List.length_take]; omega), List.getElem?_take_of_lt h1]
  · rw [if_neg h1]
    by_cases h2 : j < p + s.length
    · rw [if_pos h2, List.append_assoc, List.getElem?_append_right (by rw [List.length_take]; omega), List.length_take, show min p l.length = p by omega, List.getElem?_append_left (by omega)]
    · rw [if_neg h2, List.getElem?_append_right (by rw [List.length_append, List.length_take]; omega), List.length_append, List.length_take, List.getElem?_drop, show p + s.length + (j - (min p l.length + s.length)) = j by omega]
section
variable {P : Program} (w : World)
/-- 'copy' onto a block that is known whole. -/
theorem run_copy_at (dT sT ty e tb : TypeId) (i : TypeInfo) (size : Nat) (hu : P.underlying dT = some (.slice e)) (hi : P.info? e = some i) (hsize : i.size = size) (g pos : Nat) (cur : Array Value) (hg : Blk w g tb cur) (dLen dCap : Nat) (ad : Addr) (m c : Nat)
    (news : List Value) (hl : news.length = Nat.min m dLen * size) (hr : ∀ j u, news[j]? = some u → w.cell? (ad.add j) = some u) (hfit : pos + news.length ≤ cur.size) (h1 : ∀ u ∈ news, u.oneCell' = true) :
    (Builtin.copy_ #[dT, sT] ty #[.slice (some ⟨g, pos, none⟩) dLen dCap, .slice (some ad) m c]).run P w = .ok (goInt (Nat.min m dLen)) (w.setRow g (lay cur.toList pos news).toArray) := by
  subst hsize
  have hf := run_firstCells_some (P := P) w i.size (Nat.min m dLen) ad m c news hl hr
  have hst := run_storeCells_at P g pos tb news 0 cur w hg (by simpa using hfit) h1
  simp only [Nat.add_zero] at hst
  simp [Builtin.copy_, run_underlying hu, Builtin.lenOf, sizeOf, typeInfo, hi, hf, hst, lay]
/-- 'clear' on a block that is known whole. -/
theorem run_clear_at (t e ty tb : TypeId) (z : Value) (size : Nat) (zs : List Value) (ht : P.underlying t = some (.slice e)) (hv : (zeroValue e).run P w = .ok z w) (g pos n c : Nat) (hn : 0 < n) (hzs : (Builtin.zeroCells z.cells n).toList = zs)
    (cur : Array Value) (hg : Blk w g tb cur) (hfit : pos + zs.length ≤ cur.size) (h1 : ∀ u ∈ zs, u.oneCell' = true) :
    (Builtin.clear_ #[t] ty #[.slice (some ⟨g, pos, none⟩) n c]).run P w = .ok (.tuple #[]) (w.setRow g (lay cur.toList pos zs).toArray) := by
  have hst := run_storeCells_at P g pos tb zs 0 cur w hg (by simpa using hfit) h1
  simp only [Nat.add_zero] at hst
  obtain ⟨m, rfl⟩ : ∃ m, n = m + 1 := ⟨n - 1, by omega⟩
  simp [Builtin.clear_, run_underlying ht, hv, hzs, hst, lay]
theorem wp_copy_run {o : Oper} {a : Act} {K : Act → World → Prop} {Q : Exit → Act → World → Prop} (d s : Operand) (t t' : TypeId) (ho : o.op = .call { callee := .builtin .copy, args := #[d, s], argTypes := #[t, t'] })
    (v u : Value) (hd : a.eval d = v) (hs : a.eval s = u) {v' : Value} {w' : World} (hr : (Builtin.copy_ #[t, t'] o.type #[v, u]).run P w = .ok v' w') (h : K (a.put o.dst v') w') : o.wp P a w K Q := by
  unfold Oper.wp execOp
  simp only [ho, resolve, invoke, builtin, Sem.run_bind, Sem.run_pure, Result.andThen_ok, List.map_toArray, List.map_cons, List.map_nil, hd, hs, hr]
  exact h
theorem wpList_copy_run {ops : Array Oper} {rest : List Oper} {o : Oper} {a : Act} {Q : Exit → Act → World → Prop} (hgd : o.guard = none) (d s : Operand) (t t' : TypeId) (ho : o.op = .call { callee := .builtin .copy, args := #[d, s], argTypes := #[t, t'] })
    (v u : Value) (hd : a.eval d = v) (hs : a.eval s = u) {v' : Value} {w' : World} (hr : (Builtin.copy_ #[t, t'] o.type #[v, u]).run P w = .ok v' w') (h : wpList P ops Q rest (a.put o.dst v') w') : wpList P ops Q (o :: rest) a w :=
  wpList_plain hgd fun K hK => wp_copy_run w d s t t' ho v u hd hs hr (hK _ _ h)
theorem step_copy_run {ops : Array Oper} {o : Oper} {a : Act} {K : Act → World → Prop} {Q : Exit → Act → World → Prop} {E : Prop} (hgd : o.guard = none) (d s : Operand) (t t' : TypeId) (ho : o.op = .call { callee := .builtin .copy, args := #[d, s], argTypes := #[t, t'] })
    (v u : Value) (hd : a.eval d = v) (hs : a.eval s = u) {v' : Value} {w' : World} (hr : (Builtin.copy_ #[t, t'] o.type #[v, u]).run P w = .ok v' w') (h : K (a.put o.dst v') w') : if Region.wanted o (yielded ops a.tmps) = true then Oper.wp P o a w K Q else E := by
  have hw : Region.wanted o (yielded ops a.tmps) = true := by simp [Region.wanted, hgd]
  rw [if_pos hw]
  exact wp_copy_run w d s t t' ho v u hd hs hr h
theorem wp_append_run {o : Oper} {a : Act} {K : Act → World → Prop} {Q : Exit → Act → World → Prop} (d s : Operand) (t t' : TypeId) (ho : o.op = .call { callee := .builtin .append, args := #[d, s], argTypes := #[t, t'] })
    (v u : Value) (hd : a.eval d = v) (hs : a.eval s = u) {v' : Value} {w' : World} (hr : (Builtin.append_ #[t, t'] o.type #[v, u]).run P w = .ok v' w') (h : K (a.put o.dst v') w') : o.wp P a w K Q := by
  unfold Oper.wp execOp
  simp only [ho, resolve, invoke, builtin, Sem.run_bind, Sem.run_pure, Result.andThen_ok, List.map_toArray, List.map_cons, List.map_nil, hd, hs, hr]
  exact h
theorem wpList_append_run {ops : Array Oper} {rest : List Oper} {o : Oper} {a : Act} {Q : Exit → Act → World → Prop} (hgd : o.guard = none) (d s : Operand) (t t' : TypeId) (ho : o.op = .call { callee := .builtin .append, args := #[d, s], argTypes := #[t, t'] })
    (v u : Value) (hd : a.eval d = v) (hs : a.eval s = u) {v' : Value} {w' : World} (hr : (Builtin.append_ #[t, t'] o.type #[v, u]).run P w = .ok v' w') (h : wpList P ops Q rest (a.put o.dst v') w') : wpList P ops Q (o :: rest) a w :=
  wpList_plain hgd fun K hK => wp_append_run w d s t t' ho v u hd hs hr (hK _ _ h)
theorem step_append_run {ops : Array Oper} {o : Oper} {a : Act} {K : Act → World → Prop} {Q : Exit → Act → World → Prop} {E : Prop} (hgd : o.guard = none) (d s : Operand) (t t' : TypeId) (ho : o.op = .call { callee := .builtin .append, args := #[d, s], argTypes := #[t, t'] })
    (v u : Value) (hd : a.eval d = v) (hs : a.eval s = u) {v' : Value} {w' : World} (hr : (Builtin.append_ #[t, t'] o.type #[v, u]).run P w = .ok v' w') (h : K (a.put o.dst v') w') : if Region.wanted o (yielded ops a.tmps) = true then Oper.wp P o a w K Q else E := by
  have hw : Region.wanted o (yielded ops a.tmps) = true := by simp [Region.wanted, hgd]
  rw [if_pos hw]
  exact wp_append_run w d s t t' ho v u hd hs hr h
theorem wpList_clear_run {ops : Array Oper} {rest : List Oper} {o : Oper} {a : Act} {Q : Exit → Act → World → Prop} (hgd : o.guard = none) (d : Operand) (t : TypeId) (ho : o.op = .call { callee := .builtin .clear, args := #[d], argTypes := #[t] })
    (v : Value) (hd : a.eval d = v) {v' : Value} {w' : World} (hr : (Builtin.clear_ #[t] o.type #[v]).run P w = .ok v' w') (h : wpList P ops Q rest (a.put o.dst v') w') : wpList P ops Q (o :: rest) a w :=
  wpList_plain hgd fun K hK => by
    unfold Oper.wp execOp
    simp only [ho, resolve, invoke, builtin, Sem.run_bind, Sem.run_pure, Result.andThen_ok, List.map_toArray, List.map_cons, List.map_nil, hd, hr]
    exact hK _ _ h
end
end Go.Proofs.Ytnbcjjgilndlaaa
/- Moves of a drawn region's walk by hand: an operation is taken first, or skipped where its guard is false; its slot is named. -/
namespace Go.Proofs.Ytnbcjjgilndlaaa
open Go.RowKit
section
variable {P : Program} {ops : Array Oper} {Q : Exit → Act → World → Prop} {md : Region.Mode} {S : World → Prop}
theorem put_some (ts : Array Value) (ds : List Deferred) (d : Nat) (v : Value) : Act.put ⟨ts, ds⟩ (some d) v = ⟨ts.setIfInBounds d v, ds⟩ := rfl
/-- Number i runs first, its value goes into slot d. -/
theorem wpAnyH_run {i d : Nat} {oi : Oper} {v : Value} {fuel : Nat} {listed : Array Bool} {ts : Array Value} {ds : List Deferred} {w : World} (hi : ops[i]? = some oi) (hd : oi.dst = some d)
    (hs : Region.noSelect ops = true) (hf : Region.free md ops listed i = true) (hr : (Region.ready md ops listed).contains i = true)
    (hQ : ∀ c a w, Q (.panic c) (a.put oi.dst v) w → Q (.panic c) a w) (hw : Region.wanted oi (yielded ops ts) = true) (hy : ∀ u, S u → (execOp (Act.eval ⟨ts, ds⟩) oi).run P u = .ok (.value v) u) (hS : S w)
    (h : wpAnyH P md ops Q S fuel (listed.setIfInBounds i true) ⟨ts.setIfInBounds d v, ds⟩ w) : wpAnyH P md ops Q S (fuel + 1) listed ⟨ts, ds⟩ w :=
  wpAnyH_take hi hs hf hr hQ (.inl ⟨hw, hy⟩) hS (by rw [hd, put_some]; exact h)
/-- Number i is skipped. -/
theorem wpAnyH_skip {i d : Nat} {oi : Oper} {fuel : Nat} {listed : Array Bool} {ts : Array Value} {ds : List Deferred} {w : World} (hi : ops[i]? = some oi) (hd : oi.dst = some d)
    (hs : Region.noSelect ops = true) (hf : Region.free md ops listed i = true) (hr : (Region.ready md ops listed).contains i = true)
    (hQ : ∀ c a w, Q (.panic c) (a.put oi.dst undef) w → Q (.panic c) a w) (hw : Region.wanted oi (yielded ops ts) = false) (hS : S w)
    (h : wpAnyH P md ops Q S fuel (listed.setIfInBounds i true) ⟨ts.setIfInBounds d undef, ds⟩ w) : wpAnyH P md ops Q S (fuel + 1) listed ⟨ts, ds⟩ w :=
  wpAnyH_take hi hs hf hr hQ (.inr ⟨hw, rfl⟩) hS (by rw [hd, put_some]; exact h)
/-- Number i alone may come up. -/
theorem wpAnyH_only {i : Nat} {oi : Oper} {fuel : Nat} {listed : Array Bool} {a : Act} {w : World} (hi : ops[i]? = some oi) (hr : Region.ready md ops listed = [i]) (hw : Region.wanted oi (yielded ops a.tmps) = true)
    (h : ∀ K : Act → World → Prop, (∀ b u, S u → wpAnyH P md ops Q S fuel (listed.setIfInBounds i true) b u → K b u) → Oper.wp P oi a w K Q) : wpAnyH P md ops Q S (fuel + 1) listed a w :=
  ⟨fun h0 => (by rw [hr] at h0; cases h0), fun j hj => by
    rw [hr] at hj
    have e : j = i := (by simpa using hj)
    subst e
    unfold wpOp
    rw [hi]
    simp only [hw, if_true]
    exact .inl (h _ fun b u h1 h2 => ⟨h1, h2⟩)⟩
end
end Go.Proofs.Ytnbcjjgilndlaaa
