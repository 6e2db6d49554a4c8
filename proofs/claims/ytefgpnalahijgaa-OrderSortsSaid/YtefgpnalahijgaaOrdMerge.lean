/- Rotations and merges of events in an array: plain. Helper. -/
import Derived.Test.YtefgpnalahijgaaOrdUniq
namespace Go.Proofs.Ytefgpnalahijgaa
open Go.RowKit
set_option linter.unusedVariables false
set_option linter.unusedSimpArgs false
/-- k from a on, and k from b on, change places. -/
def swpR (f : Nat → Ev) (a b k : Nat) : Nat → Ev := fun x => if a ≤ x ∧ x < a + k then f (x - a + b) else if b ≤ x ∧ x < b + k then f (x - b + a) else f x
/-- Those from m to b come ahead of those from a to m. -/
def rot (f : Nat → Ev) (a m b : Nat) : Nat → Ev := fun x => if a ≤ x ∧ x < a + (b - m) then f (x - a + m) else if a + (b - m) ≤ x ∧ x < b then f (x - (b - m)) else f x
theorem swpR_zero (f : Nat → Ev) (a b : Nat) : swpR f a b 0 = f := by
  funext x; unfold swpR; rw [if_neg (by omega), if_neg (by omega)]
theorem swpR_at {f : Nat → Ev} {a b k x y : Nat} (h : (a ≤ x ∧ x < a + k ∧ y = x - a + b) ∨ (¬ (a ≤ x ∧ x < a + k) ∧ b ≤ x ∧ x < b + k ∧ y = x - b + a) ∨ (¬ (a ≤ x ∧ x < a + k) ∧ ¬ (b ≤ x ∧ x < b + k) ∧ y = x)) : swpR f a b k x = f y := by
  unfold swpR
  rcases h with ⟨h1, h2, rfl⟩ | ⟨h1, h2, h3, rfl⟩ | ⟨h1, h2, rfl⟩
  · rw [if_pos ⟨h1, h2⟩]
  · rw [if_neg h1, if_pos ⟨h2, h3⟩]
  · rw [if_neg h1, if_neg h2]
theorem rot_at {f : Nat → Ev} {a m b x y : Nat} (h : (a ≤ x ∧ x < a + (b - m) ∧ y = x - a + m) ∨ (¬ (a ≤ x ∧ x < a + (b - m)) ∧ a + (b - m) ≤ x ∧ x < b ∧ y = x - (b - m)) ∨ (¬ (a ≤ x ∧ x < a + (b - m)) ∧ ¬ (a + (b - m) ≤ x ∧ x < b) ∧ y = x)) : rot f a m b x = f y := by
  unfold rot
  rcases h with ⟨h1, h2, rfl⟩ | ⟨h1, h2, h3, rfl⟩ | ⟨h1, h2, rfl⟩
  · rw [if_pos ⟨h1, h2⟩]
  · rw [if_neg h1, if_pos ⟨h2, h3⟩]
  · rw [if_neg h1, if_neg h2]
theorem swpR_is (f : Nat → Ev) (a b k x : Nat) : swpR f a b k x = f (if a ≤ x ∧ x < a + k then x - a + b else if b ≤ x ∧ x < b + k then x - b + a else x) := by
  unfold swpR; split
  · rfl
  · split <;> rfl
theorem rot_is (f : Nat → Ev) (a m b x : Nat) : rot f a m b x = f (if a ≤ x ∧ x < a + (b - m) then x - a + m else if a + (b - m) ≤ x ∧ x < b then x - (b - m) else x) := by
  unfold rot; split
  · rfl
  · split <;> rfl
theorem swp_is (f : Nat → Ev) (i j x : Nat) : swp f i j x = f (if x = i then j else if x = j then i else x) := by
  unfold swp; split
  · rfl
  · split <;> rfl
theorem swpR_succ (f : Nat → Ev) {a b k : Nat} (h : a + k < b) : swp (swpR f a b k) (a + k) (b + k) = swpR f a b (k + 1) := by
  funext x
  rw [swp_is, swpR_is, swpR_is]
  congr 1
  repeat' split
  all_goals omega
theorem rot_left (f : Nat → Ev) {i j m : Nat} (hij : j < i) (hm : i ≤ m) : rot (swpR f (m - i) m j) (m - (i - j)) m (m + j) = rot f (m - i) m (m + j) := by
  funext x
  rw [rot_is, rot_is, swpR_is]
  congr 1
  repeat' split
  all_goals omega
theorem rot_right (f : Nat → Ev) {i j m : Nat} (hij : i < j) (hm : i ≤ m) : rot (swpR f (m - i) (m + j - i) i) (m - i) m (m + (j - i)) = rot f (m - i) m (m + j) := by
  funext x
  rw [rot_is, rot_is, swpR_is]
  congr 1
  repeat' split
  all_goals omega
theorem rot_same (f : Nat → Ev) {i m : Nat} (hm : i ≤ m) : swpR f (m - i) m i = rot f (m - i) m (m + i) := by
  funext x
  rw [rot_is, swpR_is]
  congr 1
  repeat' split
  all_goals omega
theorem rot_nil_right (f : Nat → Ev) (a m : Nat) : rot f a m m = f := by
  funext x
  rw [rot_is]
  congr 1
  repeat' split
  all_goals omega
theorem rot_nil_left (f : Nat → Ev) (m b : Nat) : rot f m m b = f := by
  funext x
  rw [rot_is]
  congr 1
  repeat' split
  all_goals omega
theorem rot_ahead (f : Nat → Ev) {a k : Nat} (h : a ≤ k) : swp (rot f a (a + 1) (k + 1)) k (k + 1) = rot f a (a + 1) (k + 2) := by
  funext x
  rw [swp_is, rot_is, rot_is]
  congr 1
  repeat' split
  all_goals omega
theorem rot_back (f : Nat → Ev) {k m : Nat} (h : k < m) : swp (rot f (k + 1) m (m + 1)) k (k + 1) = rot f k m (m + 1) := by
  funext x
  rw [swp_is, rot_is, rot_is]
  congr 1
  repeat' split
  all_goals omega
/-- Those from a to b as a list. -/
def sg (f : Nat → Ev) (a b : Nat) : List Ev := (List.range (b - a)).map fun i => f (a + i)
theorem sg_len (f : Nat → Ev) (a b : Nat) : (sg f a b).length = b - a := by simp [sg]
theorem sg_get {f : Nat → Ev} {a b i : Nat} (h : i < (sg f a b).length) : (sg f a b)[i] = f (a + i) := by simp [sg]
theorem sg_ext {l : List Ev} {f : Nat → Ev} {a b : Nat} (h1 : l.length = b - a) (h2 : ∀ i (h : i < l.length), l[i] = f (a + i)) : l = sg f a b :=
  List.ext_getElem (by rw [h1, sg_len]) fun i h3 h4 => by rw [h2 i h3, sg_get]
theorem sg_split (f : Nat → Ev) {a m b : Nat} (h1 : a ≤ m) (h2 : m ≤ b) : sg f a b = sg f a m ++ sg f m b := by
  symm
  refine sg_ext (by rw [List.length_append, sg_len, sg_len]; omega) fun i hi => ?_
  rw [List.length_append, sg_len, sg_len] at hi
  by_cases h : i < m - a
  · rw [List.getElem_append_left (by rw [sg_len]; exact h), sg_get]
  · rw [List.getElem_append_right (by rw [sg_len]; omega), sg_get]
    congr 1
    rw [sg_len]; omega
theorem seg_sg (f : Nat → Ev) (n : Nat) : seg f n = sg f 0 n := by simp [seg, sg]
theorem sg_congr {f f' : Nat → Ev} {a b : Nat} (h : ∀ i, a ≤ i → i < b → f' i = f i) : sg f' a b = sg f a b := by
  refine sg_ext (sg_len _ _ _) fun i hi => ?_
  rw [sg_len] at hi
  rw [sg_get, h _ (by omega) (by omega)]
theorem mem_sg {f : Nat → Ev} {a b : Nat} {e : Ev} : e ∈ sg f a b ↔ ∃ i, a ≤ i ∧ i < b ∧ f i = e := by
  unfold sg
  rw [List.mem_map]
  constructor
  · rintro ⟨i, hi, rfl⟩
    exact ⟨a + i, by omega, by have := List.mem_range.1 hi; omega, rfl⟩
  · rintro ⟨i, h1, h2, rfl⟩
    exact ⟨i - a, List.mem_range.2 (by omega), by congr 1; omega⟩
theorem sg_rot_1 (f : Nat → Ev) {a m b : Nat} (h1 : a ≤ m) (h2 : m ≤ b) : sg (rot f a m b) a (a + (b - m)) = sg f m b := by
  refine sg_ext (by rw [sg_len]; omega) fun i hi => ?_
  rw [sg_len] at hi
  rw [sg_get]
  exact rot_at (by omega)
theorem sg_rot_2 (f : Nat → Ev) {a m b : Nat} (h1 : a ≤ m) (h2 : m ≤ b) : sg (rot f a m b) (a + (b - m)) b = sg f a m := by
  refine sg_ext (by rw [sg_len]; omega) fun i hi => ?_
  rw [sg_len] at hi
  rw [sg_get]
  exact rot_at (by omega)
/-- Events of one key stand as they stood, from a to b; all others stand. -/
structure Mgd (f f' : Nat → Ev) (a b : Nat) : Prop where
  keep : ∀ k : Ky, (sg f' a b).filter (fun e => e.k == k) = (sg f a b).filter (fun e => e.k == k)
  out : ∀ x, x < a ∨ b ≤ x → f' x = f x
theorem Mgd.refl (f : Nat → Ev) (a b : Nat) : Mgd f f a b := ⟨fun _ => rfl, fun _ _ => rfl⟩
theorem Mgd.trans {f g h : Nat → Ev} {a b : Nat} (x : Mgd f g a b) (y : Mgd g h a b) : Mgd f h a b := ⟨fun k => (y.keep k).trans (x.keep k), fun i hi => (y.out i hi).trans (x.out i hi)⟩
theorem Mgd.wide {f g : Nat → Ev} {a b : Nat} (h : Mgd f g a b) {a' b' : Nat} (h1 : a' ≤ a) (h2 : a ≤ b) (h3 : b ≤ b') : Mgd f g a' b' := by
  refine ⟨fun k => ?_, fun x hx => h.out x (by omega)⟩
  rw [sg_split g h1 (by omega : a ≤ b'), sg_split g h2 h3, sg_split f h1 (by omega : a ≤ b'), sg_split f h2 h3]
  rw [List.filter_append, List.filter_append, List.filter_append, List.filter_append, h.keep k, sg_congr fun i _ hi => h.out i (.inl hi), sg_congr fun i hi _ => h.out i (.inr hi)]
theorem Mgd.kept {f g : Nat → Ev} {n : Nat} (h : Mgd f g 0 n) : Kept n f g := fun k => by rw [seg_sg, seg_sg]; exact h.keep k
theorem Kept.mgd {f g : Nat → Ev} {n a b : Nat} (h : Kept n f g) (ho : ∀ x, x < a ∨ b ≤ x → g x = f x) (h1 : a ≤ b) (h2 : b ≤ n) : Mgd f g a b := by
  refine ⟨fun k => ?_, ho⟩
  have := h k
  rw [seg_sg, seg_sg, sg_split g (Nat.zero_le a) (by omega : a ≤ n), sg_split g h1 h2, sg_split f (Nat.zero_le a) (by omega : a ≤ n), sg_split f h1 h2] at this
  rw [List.filter_append, List.filter_append, List.filter_append, List.filter_append, sg_congr fun i _ hi => ho i (.inl hi), sg_congr fun i hi _ => ho i (.inr hi)] at this
  exact List.append_cancel_right (List.append_cancel_left this)
theorem Mgd.mem {f g : Nat → Ev} {a b : Nat} (h : Mgd f g a b) {i : Nat} (h1 : a ≤ i) (h2 : i < b) : ∃ j, a ≤ j ∧ j < b ∧ g i = f j := by
  have hm : g i ∈ (sg g a b).filter (fun e => e.k == (g i).k) := List.mem_filter.2 ⟨mem_sg.2 ⟨i, h1, h2, rfl⟩, by simp⟩
  rw [h.keep] at hm
  obtain ⟨j, q1, q2, q3⟩ := mem_sg.1 (List.mem_filter.1 hm).1
  exact ⟨j, q1, q2, q3.symm⟩
theorem filter_none {l : List Ev} {k : Ky} (h : ∀ e ∈ l, e.k ≠ k) : l.filter (fun e => e.k == k) = [] :=
  List.filter_eq_nil_iff.2 fun e he => by simpa using h e he
theorem Mgd.rot {f : Nat → Ev} {a m b : Nat} (h1 : a ≤ m) (h2 : m ≤ b) (h : ∀ i j, a ≤ i → i < m → m ≤ j → j < b → (f i).k ≠ (f j).k) : Mgd f (rot f a m b) a b := by
  refine ⟨fun k => ?_, fun x hx => rot_at (by omega)⟩
  rw [sg_split (Go.Proofs.Ytefgpnalahijgaa.rot f a m b) (by omega : a ≤ a + (b - m)) (by omega : a + (b - m) ≤ b), sg_rot_1 f h1 h2, sg_rot_2 f h1 h2, sg_split f h1 h2, List.filter_append, List.filter_append]
  by_cases hk : ∃ i, a ≤ i ∧ i < m ∧ (f i).k = k
  · obtain ⟨i, q1, q2, rfl⟩ := hk
    have : (sg f m b).filter (fun e => e.k == (f i).k) = [] := filter_none fun e he => by
      obtain ⟨j, q3, q4, rfl⟩ := mem_sg.1 he
      exact fun e => h i j q1 q2 q3 q4 e.symm
    rw [this]; simp
  · have : (sg f a m).filter (fun e => e.k == k) = [] := filter_none fun e he => by
      obtain ⟨j, q3, q4, rfl⟩ := mem_sg.1 he
      exact fun e => hk ⟨j, q3, q4, e⟩
    rw [this]; simp
theorem Ky.less_ne {a b : Ky} (h : a.less b = true) : a ≠ b := fun e => by rw [e, Ky.less_irrefl] at h; cases h
/-- Two that are in order, parted and turned, and each part merged: all are in order. -/
theorem merge_join {f g1 g2 : Nat → Ev} {a s m e b d : Nat} (h1 : a ≤ s) (h2 : s ≤ m) (h3 : m ≤ e) (h4 : e ≤ b) (hd : d = s + (e - m)) (r1 : Rise f a m) (r2 : Rise f m b)
    (H1 : ∀ i j, s ≤ i → i < m → m ≤ j → j < e → (f j).k.less (f i).k = true) (H2 : ∀ i j, a ≤ i → i < s → e ≤ j → j < b → (f j).k.less (f i).k = false)
    (k1 : Mgd (rot f s m e) g1 a d) (q1 : Rise g1 a d) (k2 : Mgd g1 g2 d b) (q2 : Rise g2 d b) : Mgd f g2 a b ∧ Rise g2 a b := by
  subst hd
  have hg : ∀ i, i < s ∨ e ≤ i → rot f s m e i = f i := fun i hi => rot_at (by omega)
  have hgl : ∀ i, s ≤ i → i < s + (e - m) → rot f s m e i = f (i - s + m) := fun i q q' => rot_at (by omega)
  have hgr : ∀ i, s + (e - m) ≤ i → i < e → rot f s m e i = f (i - (e - m)) := fun i q q' => rot_at (by omega)
  have cross : ∀ i j, a ≤ i → i < s + (e - m) → s + (e - m) ≤ j → j < b → (rot f s m e j).k.less (rot f s m e i).k = false := fun i j p1 p2 p3 p4 => by
    by_cases hi : i < s
    · rw [hg i (.inl hi)]
      by_cases hj : j < e
      · rw [hgr j p3 hj]; exact r1 i (j - (e - m)) p1 (by omega) (by omega)
      · rw [hg j (.inr (by omega))]; exact H2 i j p1 hi (by omega) p4
    · rw [hgl i (by omega) p2]
      by_cases hj : j < e
      · rw [hgr j p3 hj]; exact Ky.less_asymm (H1 (j - (e - m)) (i - s + m) (by omega) (by omega) (by omega) (by omega))
      · rw [hg j (.inr (by omega))]; exact r2 (i - s + m) j (by omega) (by omega) p4
  have kr : Mgd f (rot f s m e) a b := (Mgd.rot h2 h3 fun i j p1 p2 p3 p4 => fun q => Ky.less_ne (H1 i j p1 p2 p3 p4) q.symm).wide h1 (by omega) h4
  refine ⟨(kr.trans (k1.wide (Nat.le_refl a) (by omega) (by omega))).trans (k2.wide (by omega) (by omega) (Nat.le_refl b)), fun p q p1 p2 p3 => ?_⟩
  by_cases hq : q < s + (e - m)
  · rw [k2.out p (.inl (by omega)), k2.out q (.inl hq)]
    exact q1 p q p1 p2 hq
  · by_cases hp : p < s + (e - m)
    · obtain ⟨i, i1, i2, i3⟩ := k1.mem p1 hp
      obtain ⟨j, j1, j2, j3⟩ := k2.mem (i := q) (by omega) p3
      rw [k2.out p (.inl hp), i3, j3, k1.out j (.inr j1)]
      exact cross i j i1 i2 j1 j2
    · exact q2 p q (by omega) p2 p3
/-- What is in order ahead of the merges. -/
theorem rot_rise {f : Nat → Ev} {a s m e b d : Nat} (h1 : a ≤ s) (h2 : s ≤ m) (h3 : m ≤ e) (h4 : e ≤ b) (hd : d = s + (e - m)) (r1 : Rise f a m) (r2 : Rise f m b) :
    Rise (rot f s m e) a s ∧ Rise (rot f s m e) s d ∧ Rise (rot f s m e) d e ∧ Rise (rot f s m e) e b := by
  subst hd
  have hg : ∀ i, i < s ∨ e ≤ i → rot f s m e i = f i := fun i hi => rot_at (by omega)
  have hgl : ∀ i, s ≤ i → i < s + (e - m) → rot f s m e i = f (i - s + m) := fun i q q' => rot_at (by omega)
  have hgr : ∀ i, s + (e - m) ≤ i → i < e → rot f s m e i = f (i - (e - m)) := fun i q q' => rot_at (by omega)
  refine ⟨fun p q p1 p2 p3 => ?_, fun p q p1 p2 p3 => ?_, fun p q p1 p2 p3 => ?_, fun p q p1 p2 p3 => ?_⟩
  · rw [hg p (.inl (by omega)), hg q (.inl p3)]; exact r1 p q p1 p2 (by omega)
  · rw [hgl p p1 (by omega), hgl q (by omega) p3]; exact r2 _ _ (by omega) (by omega) (by omega)
  · rw [hgr p p1 (by omega), hgr q (by omega) p3]; exact r1 _ _ (by omega) (by omega) (by omega)
  · rw [hg p (.inr (by omega)), hg q (.inr (by omega))]; exact r2 p q (by omega) p2 p3
theorem Rise.wide {f : Nat → Ev} {a b : Nat} (h : Rise f a b) {a' b' : Nat} (h1 : a ≤ a') (h2 : b' ≤ b) : Rise f a' b' := fun p q p1 p2 p3 => h p q (by omega) p2 (by omega)
theorem Rise.congr {f g : Nat → Ev} {a b : Nat} (h : Rise f a b) (hg : ∀ i, a ≤ i → i < b → g i = f i) : Rise g a b := fun p q p1 p2 p3 => by rw [hg p p1 (by omega), hg q (by omega) p3]; exact h p q p1 p2 p3
theorem Rise.le {f : Nat → Ev} {a b : Nat} (h : Rise f a b) {p q : Nat} (h1 : a ≤ p) (h2 : p ≤ q) (h3 : q < b) : (f q).k.less (f p).k = false := by
  rcases Nat.lt_or_ge p q with g | g
  · exact h p q h1 g h3
  · obtain rfl : p = q := by omega
    exact Ky.less_irrefl _
theorem Ky.less_le {a b c : Ky} (h : a.less b = true) (h' : c.less b = false) : a.less c = true := by
  rw [← Bool.not_eq_true, Ky.less_iff] at h'; rw [Ky.less_iff] at *; omega
theorem Ky.le_less {a b c : Ky} (h : b.less a = false) (h' : b.less c = true) : a.less c = true := by
  rw [← Bool.not_eq_true, Ky.less_iff] at h; rw [Ky.less_iff] at *; omega
theorem Rise.short {f : Nat → Ev} {a b : Nat} (h : b ≤ a + 1) : Rise f a b := fun p q p1 p2 p3 => by omega
/-- One ahead of many goes to its place. -/
theorem ins_first {f : Nat → Ev} {a i b : Nat} (h1 : a + 1 ≤ i) (h2 : i ≤ b) (r2 : Rise f (a + 1) b) (hl : ∀ x, a + 1 ≤ x → x < i → (f x).k.less (f a).k = true) (hr : ∀ x, i ≤ x → x < b → (f x).k.less (f a).k = false) :
    Mgd f (rot f a (a + 1) i) a b ∧ Rise (rot f a (a + 1) i) a b := by
  have r1 : Rise f a (a + 1) := Rise.short (by omega)
  obtain ⟨_, s2, _, s4⟩ := rot_rise (Nat.le_refl a) (by omega : a ≤ a + 1) h1 h2 rfl r1 r2
  refine merge_join (Nat.le_refl a) (by omega) h1 h2 rfl r1 r2 (fun x j q1 q2 q3 q4 => ?_) (fun x j q1 q2 => by omega) (Mgd.refl _ _ _) s2 (Mgd.refl _ _ _) ?_
  · obtain rfl : x = a := by omega
    exact hl j q3 q4
  · intro p q p1 p2 p3
    by_cases hp : p = a + (i - (a + 1))
    · have e1 : rot f a (a + 1) i p = f a := rot_at (by omega)
      have e2 : rot f a (a + 1) i q = f q := rot_at (by omega)
      rw [e1, e2]
      exact hr q (by omega) p3
    · exact s4 p q (by omega) p2 p3
/-- One behind many goes to its place. -/
theorem ins_last {f : Nat → Ev} {a i m : Nat} (h1 : a ≤ i) (h2 : i ≤ m) (r1 : Rise f a m) (hl : ∀ x, a ≤ x → x < i → (f m).k.less (f x).k = false) (hr : ∀ x, i ≤ x → x < m → (f m).k.less (f x).k = true) :
    Mgd f (rot f i m (m + 1)) a (m + 1) ∧ Rise (rot f i m (m + 1)) a (m + 1) := by
  have r2 : Rise f m (m + 1) := Rise.short (by omega)
  obtain ⟨s1, _, s3, _⟩ := rot_rise h1 h2 (by omega : m ≤ m + 1) (Nat.le_refl (m + 1)) rfl r1 r2
  refine merge_join h1 h2 (by omega) (Nat.le_refl (m + 1)) rfl r1 r2 (fun x j q1 q2 q3 q4 => ?_) (fun x j q1 q2 q3 q4 => by omega) (Mgd.refl _ _ _) ?_ (Mgd.refl _ _ _) s3
  · obtain rfl : j = m := by omega
    exact hr x q1 q2
  · intro p q p1 p2 p3
    by_cases hq : q = i
    · have e1 : rot f i m (m + 1) q = f m := rot_at (by omega)
      have e2 : rot f i m (m + 1) p = f p := rot_at (by omega)
      rw [e1, e2]
      exact hl p p1 (by omega)
    · exact s1 p q p1 p2 (by omega)
/-- What the search of the middle finds. -/
theorem sym_found {f : Nat → Ev} {a m b s0 r0 s : Nat} (r1 : Rise f a m) (r2 : Rise f m b) (hab : a ≤ m) (hmb : m ≤ b) {d n : Nat} (hn : n = d + m) (hd2 : d ≤ b)
    (h0 : (d < m ∧ s0 = n - b ∧ r0 = d ∧ a + b ≤ n) ∨ (m ≤ d ∧ s0 = a ∧ r0 = m ∧ n ≤ a + b)) (hs1 : s0 ≤ s) (hs2 : s ≤ r0)
    (hl : ∀ c, s0 ≤ c → c < s → (f (n - 1 - c)).k.less (f c).k = false) (hr : s < r0 → (f (n - 1 - s)).k.less (f s).k = true) :
    a ≤ s ∧ s ≤ m ∧ m ≤ n - s ∧ n - s ≤ b ∧ d = s + (n - s - m) ∧ (∀ i j, s ≤ i → i < m → m ≤ j → j < n - s → (f j).k.less (f i).k = true) ∧ (∀ i j, a ≤ i → i < s → n - s ≤ j → j < b → (f j).k.less (f i).k = false) := by
  have hsd : s ≤ d := by omega
  refine ⟨by omega, by omega, by omega, by omega, by omega, fun i j p1 p2 p3 p4 => ?_, fun i j p1 p2 p3 p4 => ?_⟩
  · have hs : s < r0 := by omega
    have h := hr hs
    have e1 := r1.le (p := s) (q := i) (by omega) p1 p2
    have e2 := r2.le (p := j) (q := n - 1 - s) p3 (by omega) (by omega)
    exact Ky.less_le (Ky.le_less e2 h) e1
  · have h := hl (s - 1) (by omega) (by omega)
    have e1 := r1.le (p := i) (q := s - 1) p1 (by omega) (by omega)
    have e2 := r2.le (p := n - 1 - (s - 1)) (q := j) (by omega) (by omega) p4
    exact Ky.le_trans e1 (Ky.le_trans h e2)
end Go.Proofs.Ytefgpnalahijgaa
