/- What all texts of this seat share: worlds that keep what was there, slices that are read. No program here. -/
import Derived.WalkKit
import Derived.WalkLawsBesides
import Derived.WalkSpells
import Derived.KernelRfl
import Derived.RowKit3
import Derived.BigQuiet
import Derived.Deep.QuietTactic
import Derived.Deep.LoopGhost
import Derived.Deep.RegionHeld3
import Derived.Deep.Draws
import Derived.Maps.AppendAt
import Derived.Lib.ConvBytes
import Derived.Laws.BytesArg
import Derived.Deep.OwnRows
namespace Go.Proofs.Ythpfkdaijiaalaa
open Go.RowKit

/-- A fact that the walk does not look into. -/
structure Hd (p : Prop) : Prop where mk :: (out : p)

/-- Blocks that are none of S are as they were; nothing else of the world has turned but the count of draws. -/
structure Keep (S : Nat → Prop) (w w' : World) : Prop where
  os : w'.os = w.os
  tape : w'.tape = w.tape
  output : w'.output = w.output
  size : w.heap.size ≤ w'.heap.size
  block : ∀ k, k < w.heap.size → ¬ S k → w'.heap[k]? = w.heap[k]?

abbrev Ext (w w' : World) : Prop := Keep (fun _ => False) w w'

namespace Keep
variable {S T : Nat → Prop} {w w1 w2 : World}
theorem refl (S : Nat → Prop) (w : World) : Keep S w w := ⟨rfl, rfl, rfl, Nat.le_refl _, fun _ _ _ => rfl⟩
theorem trans (h : Keep S w w1) (k : Keep T w1 w2) (hT : ∀ k, k < w.heap.size → T k → S k) : Keep S w w2 :=
  ⟨k.os.trans h.os, k.tape.trans h.tape, k.output.trans h.output, Nat.le_trans h.size k.size,
    fun i hi hs => (k.block i (Nat.lt_of_lt_of_le hi h.size) (fun ht => hs (hT i hi ht))).trans (h.block i hi hs)⟩
theorem ext (h : Keep S w w1) (k : Ext w1 w2) : Keep S w w2 := h.trans k (fun _ _ h => h.elim)
theorem of_ext (k : Ext w w1) : Keep S w w1 := ⟨k.os, k.tape, k.output, k.size, fun i hi _ => k.block i hi id⟩
theorem weaken (h : Keep S w w1) (hT : ∀ k, k < w.heap.size → S k → T k) : Keep T w w1 := ⟨h.os, h.tape, h.output, h.size, fun i hi ht => h.block i hi (fun hs => ht (hT i hi hs))⟩
theorem drew (h : Keep S w w1) : Keep S w w1.drew := ⟨h.os, h.tape, h.output, h.size, h.block⟩
theorem drewN (h : Keep S w w1) (n : Nat) : Keep S w (w1.drewN n) := ⟨h.os, h.tape, h.output, h.size, h.block⟩
theorem alloc (h : Keep S w w1) (o : Obj) : Keep S w (w1.alloc o) :=
  ⟨h.os, h.tape, h.output, Nat.le_trans h.size (by simp), fun i hi hs => (Below.heap_alloc w1 o i (Nat.lt_of_lt_of_le hi h.size)).trans (h.block i hi hs)⟩
theorem setCell (h : Keep S w w1) {p : Addr} (hp : p.block < w.heap.size → S p.block) (u : Value) : Keep S w (w1.setCell p u) :=
  ⟨h.os, h.tape, h.output, Nat.le_trans h.size (by simp), fun i hi hs => (Below.heap_setCell w1 p u i (fun e => hs (e ▸ hp (e ▸ hi)))).trans (h.block i hi hs)⟩
theorem grown {row : Option Nat} (h : Keep S w w1) (g : w1.grownBy w2 row) (hr : ∀ k, k < w.heap.size → row = some k → S k) : Keep S w w2 :=
  ⟨g.os.trans h.os, g.tape.trans h.tape, g.output.trans h.output, Nat.le_trans h.size g.size,
    fun i hi hs => (g.block i (Nat.lt_of_lt_of_le hi h.size) (fun e => hs (hr i hi e.symm))).trans (h.block i hi hs)⟩
theorem below (h : Ext w w1) : Below w.heap.size w w1 := ⟨h.os, h.tape, h.output, h.size, fun i hi => h.block i hi id⟩
theorem of_below (h : Below w.heap.size w w1) : Ext w w1 := ⟨h.os, h.tape, h.output, h.size, fun i hi _ => h.block i hi⟩
theorem grownBy (h : Ext w w1) (row : Option Nat) : w.grownBy w1 row := ⟨h.os, h.tape, h.output, h.size, fun i hi _ => h.block i hi id⟩
theorem blk (h : Keep S w w1) {g : Nat} {o : Obj} (hb : w.heap[g]? = some o) (hs : ¬ S g) : w1.heap[g]? = some o :=
  (h.block g (Array.getElem?_eq_some_iff.1 hb).1 hs).trans hb
theorem cell (h : Keep S w w1) {a : Addr} {v : Value} (hc : w.cell? a = some v) (hs : ¬ S a.block) : w1.cell? a = some v :=
  (World.cell?_of_block (h.block a.block (World.block_lt_of_cell? w a hc) hs)).trans hc
theorem own (h : Keep S w w1) {base : Nat} {e : TypeId} {size n : Nat} {v : Value} {xs : List Value} (ho : w.ownsRow base e size v n xs) (hs : ∀ k, v.ownBlock = some k → ¬ S k) : w1.ownsRow base e size v n xs := by
  refine ⟨ho.1, ?_⟩
  rcases ho.2 with hn | ⟨g, cap, cur, rfl, hb, hgg, rest⟩
  · exact .inl hn
  · exact .inr ⟨g, cap, cur, rfl, hb, h.blk hgg (hs g rfl), rest⟩
end Keep

theorem ext_refl (w : World) : Ext w w := Keep.refl _ w
theorem Ext.then' {w w1 w2 : World} (h : Ext w w1) (k : Ext w1 w2) : Ext w w2 := Keep.ext h k


def flat {α : Type} (enc : α → List Value) (xs : List α) : List Value := xs.flatMap enc
theorem flat_nil {α : Type} (enc : α → List Value) : flat enc [] = [] := rfl
theorem flat_append {α : Type} (enc : α → List Value) (xs ys : List α) : flat enc (xs ++ ys) = flat enc xs ++ flat enc ys := by simp [flat]
theorem flat_one {α : Type} (enc : α → List Value) (x : α) : flat enc [x] = enc x := by simp [flat]
theorem flat_len {α : Type} {enc : α → List Value} {sz : Nat} (h : ∀ x, (enc x).length = sz) (xs : List α) : (flat enc xs).length = xs.length * sz := by
  induction xs with
  | nil => simp [flat]
  | cons x xs ih => simp only [flat, List.flatMap_cons, List.length_append, List.length_cons] at ih ⊢; rw [ih, h, Nat.add_mul]; omega
theorem flat_get {α : Type} {enc : α → List Value} {sz : Nat} (h : ∀ x, (enc x).length = sz) : ∀ (xs : List α) (j : Nat) (x : α), xs[j]? = some x → ∀ i, i < sz → (flat enc xs)[j * sz + i]? = (enc x)[i]?
  | [], j, x, hx, i, hi => by simp at hx
  | y :: ys, 0, x, hx, i, hi => by
    simp at hx; subst hx
    simp only [flat, List.flatMap_cons, Nat.zero_mul, Nat.zero_add]
    rw [List.getElem?_append_left (by rw [h]; exact hi)]
  | y :: ys, j + 1, x, hx, i, hi => by
    have ih := flat_get h ys j x (by simpa using hx) i hi
    simp only [flat, List.flatMap_cons] at ih ⊢
    rw [List.getElem?_append_right (by rw [h, Nat.add_mul]; omega), h, ← ih]
    congr 1; rw [Nat.add_mul]; omega
theorem flat_take {α : Type} {enc : α → List Value} {sz : Nat} (h : ∀ x, (enc x).length = sz) (xs : List α) (m : Nat) : (flat enc xs).take (m * sz) = flat enc (xs.take m) := by
  induction xs generalizing m with
  | nil => simp [flat]
  | cons x xs ih =>
    cases m with
    | zero => simp [flat]
    | succ m =>
      have := ih m
      simp only [flat, List.flatMap_cons, List.take_succ_cons] at this ⊢
      rw [List.take_append, h, show (m + 1) * sz - sz = m * sz from by rw [Nat.add_mul]; omega, this, List.take_of_length_le (by rw [h, Nat.add_mul]; omega)]
theorem flat_drop {α : Type} {enc : α → List Value} {sz : Nat} (h : ∀ x, (enc x).length = sz) (xs : List α) (m : Nat) : (flat enc xs).drop (m * sz) = flat enc (xs.drop m) := by
  induction xs generalizing m with
  | nil => simp [flat]
  | cons x xs ih =>
    cases m with
    | zero => simp [flat]
    | succ m =>
      have := ih m
      simp only [flat, List.flatMap_cons, List.drop_succ_cons] at this ⊢
      rw [List.drop_append, h, show (m + 1) * sz - sz = m * sz from by rw [Nat.add_mul]; omega, this, List.drop_eq_nil_of_le (by rw [h, Nat.add_mul]; omega), List.nil_append]

/-- Cells that are read behind an address. -/
def Src (w : World) (A : Option Addr) (cs : List Value) : Prop := cs ≠ [] → ∃ ad, A = some ad ∧ ∀ j u, cs[j]? = some u → w.cell? (ad.add j) = some u
theorem Src.keep {w w1 : World} {A : Option Addr} {cs : List Value} {S : Nat → Prop} (h : Src w A cs) (k : Keep S w w1) (hs : cs ≠ [] → ∀ ad, A = some ad → ¬ S ad.block) : Src w1 A cs := fun hn => by
  obtain ⟨ad, e, hc⟩ := h hn
  refine ⟨ad, e, fun j u hj => k.cell (hc j u hj) ?_⟩
  have : (ad.add j).block = ad.block := by unfold Addr.add; split <;> rfl
  rw [this]; exact hs hn ad e

/-- A slice that is read: its n elements are xs. -/
structure SlAt {α : Type} (enc : α → List Value) (w : World) (A : Option Addr) (n c : Nat) (xs : List α) : Prop where
  len : xs.length = n
  cap : n ≤ c
  max : c ≤ 9223372036854775807
  nil : A = none → c = 0
  src : Src w A (flat enc xs)
section
variable {α : Type} {enc : α → List Value} {w w1 : World} {A : Option Addr} {n c : Nat} {xs : List α}
theorem SlAt.keep {S : Nat → Prop} (h : SlAt enc w A n c xs) (k : Keep S w w1) (hs : xs ≠ [] → ∀ ad, A = some ad → ¬ S ad.block) : SlAt enc w1 A n c xs :=
  ⟨h.len, h.cap, h.max, h.nil, h.src.keep k (fun hn => hs (fun e => hn (by rw [e]; rfl)))⟩
theorem SlAt.ext (h : SlAt enc w A n c xs) (k : Ext w w1) : SlAt enc w1 A n c xs := h.keep k (fun _ _ _ => id)
theorem SlAt.nil_ (enc : α → List Value) (w : World) : SlAt enc w none 0 0 [] := ⟨rfl, Nat.le_refl _, by omega, fun _ => rfl, fun h => absurd rfl h⟩
/-- Cell i of element j. -/
theorem SlAt.at_ {sz : Nat} (h : SlAt enc w A n c xs) (hl : ∀ x, (enc x).length = sz) (j : Nat) (x : α) (hx : xs[j]? = some x) : ∃ ad, A = some ad ∧ ∀ i u, (enc x)[i]? = some u → w.cell? (ad.add (j * sz + i)) = some u := by
  by_cases hn : flat enc xs = []
  · have h0 := flat_len hl xs
    rw [hn] at h0
    have : j < xs.length := (List.getElem?_eq_some_iff.1 hx).1
    have hz : sz = 0 := by
      rcases Nat.eq_zero_or_pos sz with h1 | h1
      · exact h1
      · have := Nat.mul_pos (show 0 < xs.length by omega) h1; simp at h0; omega
    have hA : ∃ ad, A = some ad := by
      cases A with
      | none => have := h.nil rfl; have := h.cap; have := h.len; omega
      | some ad => exact ⟨ad, rfl⟩
    obtain ⟨ad, rfl⟩ := hA
    refine ⟨ad, rfl, fun i u hi => ?_⟩
    have := (List.getElem?_eq_some_iff.1 hi).1
    rw [hl, hz] at this; omega
  · obtain ⟨ad, e, hc⟩ := h.src hn
    refine ⟨ad, e, fun i u hi => hc _ u ?_⟩
    have hlt : i < sz := by rw [← hl x]; exact (List.getElem?_eq_some_iff.1 hi).1
    rw [flat_get hl xs j x hx i hlt]; exact hi
theorem SlAt.take (hl : ∃ sz, ∀ x, (enc x).length = sz) (h : SlAt enc w A n c xs) (m : Nat) (hm : m ≤ n) : SlAt enc w A m c (xs.take m) := by
  obtain ⟨sz, hl⟩ := hl
  refine ⟨by rw [List.length_take, h.len]; omega, by have := h.cap; omega, h.max, h.nil, fun hn => ?_⟩
  rw [← flat_take hl] at hn ⊢
  obtain ⟨ad, e, hc⟩ := h.src (fun e => hn (by rw [e]; simp))
  exact ⟨ad, e, fun j u hj => hc j u (by rw [List.getElem?_take] at hj; split at hj; exact hj; cases hj)⟩
theorem SlAt.drop {sz : Nat} (hl : ∀ x, (enc x).length = sz) (h : SlAt enc w A n c xs) (m : Nat) (hm : m ≤ n) : SlAt enc w (if c = m then A else A.map (·.add (m * sz))) (n - m) (c - m) (xs.drop m) := by
  refine ⟨by rw [List.length_drop, h.len], by have := h.cap; omega, by have := h.max; omega, fun he => ?_, fun hn => ?_⟩
  · split at he
    · omega
    · have := h.nil (by simpa using he); omega
  · rw [← flat_drop hl] at hn ⊢
    obtain ⟨ad, e, hc⟩ := h.src (fun e => hn (by rw [e]; simp))
    have hne : ¬ c = m := by
      intro e
      have : m = n := by have := h.cap; omega
      apply hn
      rw [List.drop_eq_nil_of_le (by rw [flat_len hl, h.len, this]; omega)]
    rw [if_neg hne, e]
    refine ⟨_, rfl, fun j u hj => ?_⟩
    have : (ad.add (m * sz)).add j = ad.add (m * sz + j) := by
      simp only [Addr.add]
      repeat' split
      all_goals simp_all
      all_goals omega
    rw [this]
    exact hc _ _ (by rw [← hj, List.getElem?_drop])
end

/-- What the program says of a slice's type. -/
structure Elt (P : Program) (t e : TypeId) {α : Type} (enc : α → List Value) (sz bytes : Nat) : Prop where
  ht : P.underlying t = some (.slice e)
  info : ∃ i z, P.info? e = some i ∧ i.zero = some z ∧ i.size = sz ∧ i.bytes = bytes ∧ z.cells.size = sz
  pos : 0 < sz
  len : ∀ x, (enc x).length = sz
  one : ∀ x u, u ∈ enc x → u.oneCell' = true

/-- The blocks that a slice of one's own may write. -/
def foot (A : Option Addr) (c : Nat) (k : Nat) : Prop := c ≠ 0 ∧ ∃ ad, A = some ad ∧ ad.block = k

/-- A slice of one's own: it begins at its block's head; or it has no room at all. -/
structure Own {α : Type} (enc : α → List Value) (sz : Nat) (e : TypeId) (B : Nat) (w : World) (A : Option Addr) (n c : Nat) (xs : List α) : Prop where
  len : xs.length = n
  row : (n = 0 ∧ c = 0) ∨ ∃ g cur, A = some ⟨g, 0, none⟩ ∧ B ≤ g ∧ w.heap[g]? = some (.cells cur e (0, 0)) ∧ n ≤ c ∧ c ≤ maxLen ∧ cur.size = c * sz ∧ cur.toList.take (n * sz) = flat enc xs
section
variable {α : Type} {enc : α → List Value} {sz : Nat} {e : TypeId} {B : Nat} {w w1 : World} {A : Option Addr} {n c : Nat} {xs : List α}
theorem Own.nil_ (enc : α → List Value) (sz : Nat) (e : TypeId) (B : Nat) (w : World) : Own enc sz e B w none 0 0 [] := ⟨rfl, .inl ⟨rfl, rfl⟩⟩
theorem Own.keep {S : Nat → Prop} (h : Own enc sz e B w A n c xs) (k : Keep S w w1) (hs : ∀ k, foot A c k → ¬ S k) : Own enc sz e B w1 A n c xs := by
  refine ⟨h.len, ?_⟩
  rcases h.row with hr | ⟨g, cur, rfl, hb, hg, h1, h2, h3, h4⟩
  · exact .inl hr
  · by_cases hc : c = 0
    · exact .inl ⟨by omega, hc⟩
    · exact .inr ⟨g, cur, rfl, hb, k.blk hg (hs g ⟨hc, _, rfl, rfl⟩), h1, h2, h3, h4⟩
theorem Own.ext (h : Own enc sz e B w A n c xs) (k : Ext w w1) : Own enc sz e B w1 A n c xs := h.keep k (fun _ _ => id)
theorem Own.ge (h : Own enc sz e B w A n c xs) {k : Nat} (hk : foot A c k) : B ≤ k ∧ k < w.heap.size := by
  obtain ⟨hc, ad, rfl, rfl⟩ := hk
  rcases h.row with hr | ⟨g, cur, he, hb, hg, _⟩
  · exact absurd hr.2 hc
  · cases he; exact ⟨hb, (Array.getElem?_eq_some_iff.1 hg).1⟩
theorem Own.type_ (h : Own enc sz e B w A n c xs) {k : Nat} (hk : foot A c k) : ∃ cur, w.heap[k]? = some (.cells cur e (0, 0)) := by
  obtain ⟨hc, ad, rfl, rfl⟩ := hk
  rcases h.row with hr | ⟨g, cur, he, hb, hg, _⟩
  · exact absurd hr.2 hc
  · cases he; exact ⟨cur, hg⟩
theorem Own.lower {B' : Nat} (h : Own enc sz e B w A n c xs) (hB : B' ≤ B) : Own enc sz e B' w A n c xs := by
  refine ⟨h.len, ?_⟩
  rcases h.row with hr | ⟨g, cur, rfl, hb, rest⟩
  · exact .inl hr
  · exact .inr ⟨g, cur, rfl, Nat.le_trans hB hb, rest⟩
theorem Own.cap (h : Own enc sz e B w A n c xs) : n ≤ c ∧ c ≤ 9223372036854775807 := by
  rcases h.row with hr | ⟨g, cur, _, _, _, h1, h2, _⟩
  · omega
  · exact ⟨h1, by simp only [maxLen] at h2; omega⟩
theorem Own.sl (h : Own enc sz e B w A n c xs) : SlAt enc w A n c xs := by
  refine ⟨h.len, h.cap.1, h.cap.2, fun hA => ?_, fun hn => ?_⟩
  · rcases h.row with hr | ⟨g, cur, he, _⟩
    · exact hr.2
    · rw [hA] at he; cases he
  · rcases h.row with hr | ⟨g, cur, rfl, _, hg, _, _, _, ht⟩
    · exact absurd (by rw [List.eq_nil_of_length_eq_zero (h.len.trans hr.1)]; rfl) hn
    · refine ⟨_, rfl, fun j u hj => ?_⟩
      have hadd : (⟨g, 0, none⟩ : Addr).add j = ⟨g, j, none⟩ := by unfold Addr.add; split <;> simp_all
      rw [hadd, cell_of_row w g j cur e (0, 0) hg]
      rw [← ht, List.getElem?_take] at hj
      split at hj
      · simpa using hj
      · cases hj
theorem Own.of_row (h : w.ownsRow B e sz (.slice A n c) n (flat enc xs)) (hl : xs.length = n) : Own enc sz e B w A n c xs := by
  refine ⟨hl, ?_⟩
  rcases h.2 with ⟨he, h0⟩ | ⟨g, cap, cur, he, hb, hg, rest⟩
  · cases he; exact .inl ⟨rfl, rfl⟩
  · cases he; exact .inr ⟨g, cur, rfl, hb, hg, rest⟩
end

section
variable {P : Program} {α : Type} {enc : α → List Value} {t e : TypeId} {sz bytes : Nat}
/-- 'append(v, x...)' of a slice of one's own, whatever is appended. -/
theorem run_app (E : Elt P t e enc sz bytes) (ty : TypeId) (w : World) {B : Nat} {A : Option Addr} {n c : Nat} {xs : List α} (ho : Own enc sz e B w A n c xs) {A2 : Option Addr} {m c2 : Nat} {ys : List α}
    (hm : ys.length = m) (hnil : A2 = none → c2 = 0) (hsrc : Src w A2 (flat enc ys)) (hb : (n + m) * bytes ≤ 140737488355328) (hmax : n + m ≤ 140737488355328) (hB : B ≤ w.heap.size) :
    ∃ A' c' w', (Builtin.append_ #[t, t] ty #[.slice A n c, .slice A2 m c2]).run P w = .ok (.slice A' (n + m) c') w' ∧ Own enc sz e B w' A' (n + m) c' (xs ++ ys) ∧ Keep (foot A c) w w' ∧ (∀ k, foot A' c' k → foot A c k ∨ w.heap.size ≤ k) := by
  obtain ⟨i, z, hi, hz, hs, hby, hzs⟩ := E.info
  have hmx : n + m ≤ maxLen := by simp only [maxLen]; omega
  have hl : (flat enc ys).length = m * sz := by rw [flat_len E.len, hm]
  have h1 : ∀ u ∈ flat enc ys, u.oneCell' = true := by
    intro u hu; simp only [flat, List.mem_flatMap] at hu; obtain ⟨x, _, hx⟩ := hu; exact E.one x u hx
  by_cases hm0 : m = 0
  · subst hm0
    have hy : ys = [] := List.eq_nil_of_length_eq_zero hm
    subst hy
    refine ⟨A, c, w, ?_, by simpa using ho, Keep.refl _ _, fun k hk => .inl hk⟩
    have hc := ho.cap.1
    cases A <;> cases A2 <;> simp [Builtin.append_, run_underlying E.ht, sizeOf, typeInfo, hi, Builtin.lenOf, Builtin.firstCells, loadCells, loadCellsFrom, storeCells, hc]
  have hne : flat enc ys ≠ [] := fun e0 => by
    rw [e0] at hl; have := Nat.mul_pos (show 0 < m by omega) E.pos; simp at hl; omega
  obtain ⟨a2, rfl, hcells⟩ := hsrc hne
  have fin : ∀ v w', w'.ownsRow B e sz v (n + m) (flat enc (xs ++ ys)) → ∃ A' c', v = .slice A' (n + m) c' ∧ Own enc sz e B w' A' (n + m) c' (xs ++ ys) := by
    intro v w' hr
    have hv : ∃ A' c', v = .slice A' (n + m) c' := by
      rcases hr.2 with ⟨_, h0⟩ | ⟨g, cap, cur, rfl, _⟩
      · omega
      · exact ⟨_, _, rfl⟩
    obtain ⟨A', c', rfl⟩ := hv
    exact ⟨A', c', rfl, Own.of_row hr (by simp [ho.len, hm])⟩
  have key : ∀ (hrow : w.ownsRow B e sz (.slice A n c) n (flat enc xs)), (∀ k, (Value.slice A n c).ownBlock = some k → foot A c k) → ∃ A' c' w', (Builtin.append_ #[t, t] ty #[.slice A n c, .slice (some a2) m c2]).run P w = .ok (.slice A' (n + m) c') w' ∧ Own enc sz e B w' A' (n + m) c' (xs ++ ys) ∧ Keep (foot A c) w w' ∧ (∀ k, foot A' c' k → foot A c k ∨ w.heap.size ≤ k) := by
    intro hrow hfoot
    obtain ⟨v', w', hr, ho', hg, _, hat⟩ := run_append_own_at (P := P) w B t ty e i z sz bytes E.ht hi hz hs hby hzs E.pos _ n _ hrow a2 m c2 (flat enc ys) hl hcells h1 hmx hb hB
    rw [← flat_append] at ho'
    obtain ⟨A', c', rfl, hO⟩ := fin v' w' ho'
    refine ⟨A', c', w', hr, hO, (Keep.refl _ _).grown hg (fun k _ hk => hfoot k hk), fun k hk => ?_⟩
    obtain ⟨hc', ad, rfl, rfl⟩ := hk
    rcases hat with hat | hat
    · exact .inl (hfoot _ (by rw [← hat]; rfl))
    · simp [Value.ownBlock] at hat; exact .inr (by omega)
  rcases ho.row with ⟨hn0, hc0⟩ | ⟨g, cur, rfl, hbg, hg, hnc, hcm, hcs, htake⟩
  · subst hn0; subst hc0
    have hx : xs = [] := List.eq_nil_of_length_eq_zero ho.len
    subst hx
    cases A with
    | none => exact key (World.ownsRow_nil w B e sz) (fun k hk => by simp [Value.ownBlock] at hk)
    | some b =>
      have hr := run_append_grow (P := P) w t ty e i z E.ht hi hz b 0 0 [] (by simp) (by simp) a2 m c2 (flat enc ys) (by rw [hl, hs]) hcells (by omega) (by omega) (growslice_fits (by omega) (by rw [hby]; exact hb))
      have hge := grownCap_ge w (0 + m) 0 e
      have hcm := grownCap_le_maxLen w (0 + m) 0 e (by omega)
      refine ⟨_, _, _, hr, ⟨by simp [hm], .inr ⟨w.heap.size, _, rfl, hB, heap_alloc_new w.drew _, hge, hcm, ?_, ?_⟩⟩, ((Keep.refl _ w).drew).alloc _, fun k hk => .inr ?_⟩
      · simp only [Array.size_append, List.size_toArray, size_zeroCells, hzs, hl, List.length_nil, Nat.zero_add, ← Nat.add_mul]
        simp only [Nat.zero_add] at hge
        congr 1; omega
      · simp only [List.nil_append, Array.toList_append, Nat.zero_add]
        rw [← hl]
        simp
      · obtain ⟨_, ad, h2, h3⟩ := hk; cases h2; exact Nat.le_of_eq h3
  · have hrow : w.ownsRow B e sz (.slice (some ⟨g, 0, none⟩) n c) n (flat enc xs) := ⟨by rw [flat_len E.len, ho.len], .inr ⟨g, c, cur, rfl, hbg, hg, hnc, hcm, hcs, htake⟩⟩
    by_cases hc : c = 0
    · have hn0 : n = 0 := by omega
      subst hc; subst hn0
      have hx : xs = [] := List.eq_nil_of_length_eq_zero ho.len
      subst hx
      have hr2 := run_append_grow (P := P) w t ty e i z E.ht hi hz ⟨g, 0, none⟩ 0 0 [] (by simp) (by simp) a2 m c2 (flat enc ys) (by rw [hl, hs]) hcells (by omega) (by omega) (growslice_fits (by omega) (by rw [hby]; exact hb))
      have hge := grownCap_ge w (0 + m) 0 e
      have hcm := grownCap_le_maxLen w (0 + m) 0 e (by omega)
      refine ⟨_, _, _, hr2, ⟨by simp [hm], .inr ⟨w.heap.size, _, rfl, hB, heap_alloc_new w.drew _, hge, hcm, ?_, ?_⟩⟩, ((Keep.refl _ w).drew).alloc _, fun k hk => .inr ?_⟩
      · simp only [Array.size_append, List.size_toArray, size_zeroCells, hzs, hl, List.length_nil, Nat.zero_add, ← Nat.add_mul]
        simp only [Nat.zero_add] at hge
        congr 1; omega
      · simp only [List.nil_append, Array.toList_append, Nat.zero_add]
        rw [← hl]
        simp
      · obtain ⟨_, ad, h2, h3⟩ := hk; cases h2; exact Nat.le_of_eq h3
    · exact key hrow (fun k hk => ⟨hc, _, rfl, by simpa [Value.ownBlock] using hk⟩)

variable {ops : Array Oper} {rest : List Oper} {o : Oper} {a : Act} {Q : Exit → Act → World → Prop}
theorem wp_app (E : Elt P t e enc sz bytes) {w : World} (hgd : o.guard = none) (s x : Operand) (ho : o.op = .call { callee := .builtin .append, args := #[s, x], argTypes := #[t, t] })
    {B : Nat} {A : Option Addr} {n c : Nat} {xs : List α} (hs : a.eval s = .slice A n c) (hown : Own enc sz e B w A n c xs) {A2 : Option Addr} {m c2 : Nat} {ys : List α} (hx : a.eval x = .slice A2 m c2)
    (hy : SlAt enc w A2 m c2 ys) (hb : (n + m) * bytes ≤ 140737488355328) (hmax : n + m ≤ 140737488355328) (hB : B ≤ w.heap.size)
    (h : ∀ A' c' w', Own enc sz e B w' A' (n + m) c' (xs ++ ys) → Keep (foot A c) w w' → (∀ k, foot A' c' k → foot A c k ∨ w.heap.size ≤ k) → wpList P ops Q rest (a.put o.dst (.slice A' (n + m) c')) w') :
    wpList P ops Q (o :: rest) a w := by
  refine wpList_plain hgd fun K hK => ?_
  obtain ⟨A', c', w', hr, h2, h3, h4⟩ := run_app E o.type w hown hy.len hy.nil hy.src hb hmax hB
  unfold Oper.wp execOp
  simp only [ho, resolve, invoke, builtin, Sem.run_bind, Sem.run_pure, Result.andThen_ok, List.map_toArray, List.map_cons, List.map_nil, hs, hx, hr]
  exact hK _ _ (h A' c' w' h2 h3 h4)
/-- 'append(v, x)' of one element: it lies in a block of its own first. -/
theorem wp_push (E : Elt P t e enc sz bytes) {w : World} (hgd : o.guard = none) (s x : Operand) (ho : o.op = .call { callee := .builtin .append, args := #[s, x], argTypes := #[t, t] })
    {B : Nat} {A : Option Addr} {n c : Nat} {xs : List α} (hs : a.eval s = .slice A n c) (hown : Own enc sz e B w A n c xs) (y : α) (cs : Array Value) (hcs : cs.toList = enc y) (hx : a.eval x = .slice (some ⟨w.heap.size, 0, none⟩) 1 1)
    (hb : (n + 1) * bytes ≤ 140737488355328) (hmax : n + 1 ≤ 140737488355328) (hB : B ≤ w.heap.size)
    (h : ∀ A' c' w', Own enc sz e B w' A' (n + 1) c' (xs ++ [y]) → Keep (foot A c) w w' → (∀ k, foot A' c' k → foot A c k ∨ w.heap.size ≤ k) → wpList P ops Q rest (a.put o.dst (.slice A' (n + 1) c')) w') :
    wpList P ops Q (o :: rest) a (w.alloc (.cells cs e)) := by
  have hka := (Keep.refl (fun _ => False) w).alloc (.cells cs e)
  refine wp_app E hgd s x ho hs (hown.ext hka) (A2 := some ⟨w.heap.size, 0, none⟩) (c2 := 1) (ys := [y]) hx ⟨rfl, Nat.le_refl _, by omega, by simp, fun _ => ⟨_, rfl, fun j u hj => ?_⟩⟩ hb hmax (by simp; omega) ?_
  · have hadd : (⟨w.heap.size, 0, none⟩ : Addr).add j = ⟨w.heap.size, j, none⟩ := by unfold Addr.add; split <;> simp_all
    rw [hadd, cell_of_row _ w.heap.size j cs e (0, 0) (heap_alloc_new w _)]
    rw [flat_one, ← hcs] at hj
    simpa using hj
  · intro A' c' w' h1 h2 h3
    refine h A' c' w' h1 ((Keep.of_ext hka).trans h2 (fun _ _ h => h)) (fun k hk => ?_)
    rcases h3 k hk with h4 | h4
    · exact .inl h4
    · simp at h4; exact .inr (by omega)
end

def u8v (b : UInt8) : Value := .int .u8 (b.toNat : Int)
def enc8 (b : UInt8) : List Value := [u8v b]
def encS (s : ByteArray) : List Value := [.string s]
def encI (n : Int) : List Value := [.int .i64 n]

theorem add_plain (g o j : Nat) : (⟨g, o, none⟩ : Addr).add j = ⟨g, o + j, none⟩ := by unfold Addr.add; split <;> simp_all

end Go.Proofs.Ythpfkdaijiaalaa
