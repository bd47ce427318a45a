/- A right node's bytes: what they are, how many. No program here. -/
import Derived.Test.YthpfkdaijiaalaaQ
namespace Go.Proofs.Ythpfkdaijiaalaa
open Go.RowKit

def txt (xs : List ByteArray) (i : Nat) : ByteArray := xs[i]?.getD ⟨#[]⟩
def num (xs : List Int) (i : Nat) : Int := xs[i]?.getD 0
def leafB (keys vals : List ByteArray) : Nat → List UInt8
  | 0 => []
  | i + 1 => leafB keys vals i ++ (textB (txt keys i) ++ textB (txt vals i))
def kidsB (keys : List ByteArray) (kids : List Int) : Nat → List UInt8
  | 0 => []
  | i + 1 => kidsB keys kids i ++ ((if i = 0 then [] else textB (txt keys (i - 1))) ++ leB (num kids i).toNat 4)
def headL (n : Nd) : List UInt8 := leB n.level.toNat 1 ++ (leB n.lsn.toNat 8 ++ (leB n.right.toNat 4 ++ (leB n.keys.length 2 ++ textB n.high)))
def bodyB (n : Nd) : List UInt8 := if n.level = 0 then leafB n.keys n.vals n.vals.length else kidsB n.keys n.kids n.kids.length
def rawB (n : Nd) : List UInt8 := headL n ++ bodyB n
def padB (xs : List UInt8) : List UInt8 := xs ++ List.replicate (252 - xs.length) 0
def encB (n : Nd) : List UInt8 := sealB (padB (rawB n))

/-- What a right node is. -/
structure Fit (n : Nd) : Prop where
  level0 : 0 ≤ n.level
  level : n.level ≤ 20
  lsn0 : 0 ≤ n.lsn
  lsn : n.lsn ≤ 1099511627776
  right0 : 0 ≤ n.right
  right : n.right ≤ 4096
  high : n.high.size ≤ 16
  keys : ∀ k, k ∈ n.keys → 1 ≤ k.size ∧ k.size ≤ 16
  leaf : n.level = 0 → n.vals.length = n.keys.length ∧ n.kids = [] ∧ ∀ v, v ∈ n.vals → v.size ≤ 32
  inner : n.level ≠ 0 → n.kids.length = n.keys.length + 1 ∧ n.vals = [] ∧ ∀ k, k ∈ n.kids → 1 ≤ k ∧ k ≤ 4096
  size : sizeT n ≤ 256

theorem sumS_le (l : List ByteArray) (m : Nat) (h : ∀ k, k ∈ l → k.size ≤ m) : 0 ≤ sumS l ∧ 2 * (l.length : Int) ≤ sumS l ∧ sumS l ≤ (l.length : Int) * (2 + m) := by
  induction l with
  | nil => simp [sumS]
  | cons a l ih =>
    have h1 := ih (fun k hk => h k (List.mem_cons_of_mem _ hk))
    have h2 := h a (List.mem_cons_self ..)
    have e : sumS (a :: l) = 2 + (a.size : Int) + sumS l := by simp [sumS]
    rw [e]; simp only [List.length_cons]
    have : ((l.length + 1 : Nat) : Int) * (2 + m) = (l.length : Int) * (2 + m) + (2 + m) := by rw [show ((l.length + 1 : Nat) : Int) = (l.length : Int) + 1 by omega, Int.add_mul]; omega
    omega

theorem inB_iff {n m : Int} : inB n m = true ↔ 0 ≤ n ∧ n ≤ m := by unfold inB; simp
theorem keyCk_iff {k : ByteArray} : (keyCk k == 0) = true ↔ 1 ≤ k.size ∧ k.size ≤ 16 := by unfold keyCk; split <;> simp_all
theorem keysB_keys {high : ByteArray} {keys : List ByteArray} (h : keysB high keys = true) : ∀ k, k ∈ keys → 1 ≤ k.size ∧ k.size ≤ 16 := by
  intro k hk
  obtain ⟨i, hi, rfl⟩ := List.getElem_of_mem hk
  unfold keysB at h
  rw [List.all_eq_true] at h
  have := h i (List.mem_range.2 hi)
  simp only [List.getElem?_eq_getElem hi, Option.getD_some, keyB, Bool.and_eq_true] at this
  exact keyCk_iff.1 this.1.1

theorem okB_fit {n : Nd} (h : okB n = true) (hl : n.keys.length ≤ 140737488351232) : Fit n := by
  simp only [okB, headB, Bool.and_eq_true, decide_eq_true_eq] at h
  obtain ⟨⟨⟨⟨⟨⟨h1, h2⟩, h3⟩, h4⟩, hp⟩, hz⟩, hks⟩ := h
  have hk := keysB_keys hks
  have hks2 := sumS_le n.keys 16 (fun k hk' => (hk k hk').2)
  have hh : n.high.size ≤ 16 := by
    rw [Bool.or_eq_true] at h4
    rcases h4 with h4 | h4
    · rw [size_list]; simp at h4; rw [h4]; simp
    · exact (keyCk_iff.1 h4).2
  have e1 := inB_iff.1 h1
  have e2 := inB_iff.1 h2
  have e3 := inB_iff.1 h3
  have hleaf : n.level = 0 → n.vals.length = n.keys.length ∧ n.kids = [] ∧ ∀ v, v ∈ n.vals → v.size ≤ 32 := by
    intro hl0
    simp only [partsB, hl0, if_true, Bool.and_eq_true, decide_eq_true_eq, Bool.not_eq_true'] at hp
    refine ⟨hp.1.1, List.eq_nil_of_length_eq_zero hp.1.2, fun v hv => ?_⟩
    have h5 := hp.2
    rw [List.any_eq_false] at h5
    have := h5 v hv
    simp [badV] at this; exact this
  have hinner : n.level ≠ 0 → n.kids.length = n.keys.length + 1 ∧ n.vals = [] ∧ ∀ k, k ∈ n.kids → 1 ≤ k ∧ k ≤ 4096 := by
    intro hl0
    simp only [partsB, hl0, if_false, Bool.and_eq_true, decide_eq_true_eq, Bool.not_eq_true'] at hp
    refine ⟨hp.1.1, List.eq_nil_of_length_eq_zero hp.1.2, fun v hv => ?_⟩
    have h5 := hp.2
    rw [List.any_eq_false] at h5
    have := h5 v hv
    simp [badK] at this; exact this
  refine ⟨e1.1, e1.2, e2.1, e2.2, e3.1, e3.2, hh, hk, hleaf, hinner, ?_⟩
  by_cases hl0 : n.level = 0
  · obtain ⟨a, b, c⟩ := hleaf hl0
    have := sumS_le n.vals 32 c
    have e : sizeT n = 21 + (n.high.size : Int) + sumS n.keys + sumS n.vals := by simp [sizeT, hl0]
    rw [e] at hz ⊢; unfold wrap64 at hz; omega
  · obtain ⟨a, b, c⟩ := hinner hl0
    have e : sizeT n = 21 + (n.high.size : Int) + sumS n.keys + 4 * (n.kids.length : Int) := by simp [sizeT, hl0]
    rw [e] at hz ⊢; unfold wrap64 at hz; omega

theorem Fit.many {n : Nd} (h : Fit n) : n.keys.length ≤ 117 ∧ n.vals.length ≤ 117 ∧ n.kids.length ≤ 118 := by
  have h1 := sumS_le n.keys 16 (fun k hk => (h.keys k hk).2)
  have h2 := h.size
  by_cases hl0 : n.level = 0
  · obtain ⟨a, b, c⟩ := h.leaf hl0
    have := sumS_le n.vals 32 c
    have e : sizeT n = 21 + (n.high.size : Int) + sumS n.keys + sumS n.vals := by simp [sizeT, hl0]
    rw [b]; simp only [List.length_nil]; omega
  · obtain ⟨a, b, c⟩ := h.inner hl0
    have e : sizeT n = 21 + (n.high.size : Int) + sumS n.keys + 4 * (n.kids.length : Int) := by simp [sizeT, hl0]
    rw [b]; simp only [List.length_nil]; omega

theorem txt_get {xs : List ByteArray} {i : Nat} {x : ByteArray} (h : xs[i]? = some x) : txt xs i = x := by simp [txt, h]
theorem num_get {xs : List Int} {i : Nat} {x : Int} (h : xs[i]? = some x) : num xs i = x := by simp [num, h]
theorem txt_le {xs : List ByteArray} {m : Nat} (h : ∀ k, k ∈ xs → k.size ≤ m) (i : Nat) : (txt xs i).size ≤ m := by
  unfold txt
  cases hx : xs[i]? with
  | none => exact Nat.zero_le _
  | some x => exact h x (List.mem_of_getElem? hx)
theorem leafB_le {keys vals : List ByteArray} (hk : ∀ k, k ∈ keys → k.size ≤ 16) (hv : ∀ k, k ∈ vals → k.size ≤ 32) (i : Nat) : (leafB keys vals i).length ≤ 52 * i := by
  induction i with
  | zero => simp [leafB]
  | succ i ih => have := txt_le hk i; have := txt_le hv i; simp only [leafB, List.length_append, textB_len]; omega
theorem kidsB_le {keys : List ByteArray} {kids : List Int} (hk : ∀ k, k ∈ keys → k.size ≤ 16) (i : Nat) : (kidsB keys kids i).length ≤ 22 * i := by
  induction i with
  | zero => simp [kidsB]
  | succ i ih =>
    have := txt_le hk (i - 1)
    simp only [kidsB, List.length_append, leB_len]
    split
    · simp; omega
    · rw [textB_len]; omega
theorem sumS_txt {xs : List ByteArray} {i : Nat} (h : i < xs.length) : sumS (xs.take (i + 1)) = sumS (xs.take i) + (2 + ((txt xs i).size : Int)) := by
  have hg : xs[i]? = some xs[i] := List.getElem?_eq_getElem h
  rw [take_snoc_get hg, sumS_snoc, txt_get hg]
theorem leafB_len {keys vals : List ByteArray} (i : Nat) (hk : i ≤ keys.length) (hv : i ≤ vals.length) : ((leafB keys vals i).length : Int) = sumS (keys.take i) + sumS (vals.take i) := by
  induction i with
  | zero => simp [leafB, sumS]
  | succ i ih =>
    rw [sumS_txt (by omega), sumS_txt (by omega)]
    have := ih (by omega) (by omega)
    simp only [leafB, List.length_append, textB_len]; omega
theorem kidsB_len {keys : List ByteArray} {kids : List Int} (i : Nat) (hk : i ≤ keys.length) : ((kidsB keys kids (i + 1)).length : Int) = sumS (keys.take i) + 4 * ((i : Int) + 1) := by
  induction i with
  | zero => simp [kidsB, sumS, leB_len]
  | succ i ih =>
    rw [sumS_txt (by omega)]
    have := ih (by omega)
    rw [kidsB]
    simp only [List.length_append, leB_len, Nat.add_sub_cancel, Nat.succ_ne_zero, if_false, textB_len]; omega
theorem Fit.head_len {n : Nd} : (headL n).length = 17 + n.high.size := by simp only [headL, List.length_append, leB_len, textB_len]; omega
theorem Fit.raw_len {n : Nd} (h : Fit n) : ((rawB n).length : Int) = sizeT n - 4 := by
  simp only [rawB, List.length_append, Fit.head_len, bodyB]
  by_cases hl0 : n.level = 0
  · obtain ⟨a, b, c⟩ := h.leaf hl0
    have e : sizeT n = 21 + (n.high.size : Int) + sumS n.keys + sumS n.vals := by simp [sizeT, hl0]
    rw [if_pos hl0]
    have := leafB_len (keys := n.keys) (vals := n.vals) n.vals.length (by omega) (by omega)
    rw [List.take_of_length_le (by omega), List.take_of_length_le (by omega)] at this
    omega
  · obtain ⟨a, b, c⟩ := h.inner hl0
    have e : sizeT n = 21 + (n.high.size : Int) + sumS n.keys + 4 * (n.kids.length : Int) := by simp [sizeT, hl0]
    rw [if_neg hl0, a]
    have := kidsB_len (keys := n.keys) (kids := n.kids) n.keys.length (by omega)
    rw [List.take_of_length_le (by omega)] at this
    omega
theorem Fit.raw_le {n : Nd} (h : Fit n) : (rawB n).length ≤ 252 := by have := h.raw_len; have := h.size; omega
theorem padB_len {xs : List UInt8} (h : xs.length ≤ 252) : (padB xs).length = 252 := by simp [padB]; omega
theorem sealB_len (xs : List UInt8) : (sealB xs).length = xs.length + 4 := by simp [sealB, leB_len]
theorem Fit.enc_len {n : Nd} (h : Fit n) : (encB n).length = 256 := by rw [encB, sealB_len, padB_len h.raw_le]
end Go.Proofs.Ythpfkdaijiaalaa
