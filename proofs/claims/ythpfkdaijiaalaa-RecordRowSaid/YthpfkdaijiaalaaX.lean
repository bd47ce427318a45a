/- A node's bytes are read: what is read; a right node is read as it was written. No program here. -/
import Derived.Test.YthpfkdaijiaalaaS
namespace Go.Proofs.Ythpfkdaijiaalaa
open Go.RowKit

abbrev RSt := List UInt8 × Int
def rdN (k : Nat) (s : RSt) : Int × RSt := ((rNum s.1 s.2 k).1, ((rNum s.1 s.2 k).2.2.1, (rNum s.1 s.2 k).2.2.2))
def rdT (m : Nat) (s : RSt) : ByteArray × RSt := (bsStr (rText s.1 s.2 m).1, ((rText s.1 s.2 m).2.2.1, (rText s.1 s.2 m).2.2.2))

/-- What is read ahead of the entries. -/
def rdHead (m : Nat) (s : RSt) : Nd × Int × RSt :=
  let a := rdN 1 s
  let b := rdN 8 a.2
  let c := rdN 4 b.2
  let d := rdN 2 c.2
  let h := rdT m d.2
  if 0 < a.1 then
    let k := rdN 4 h.2
    (⟨a.1, b.1, c.1, h.1, [], [], [k.1]⟩, d.1, k.2)
  else (⟨a.1, b.1, c.1, h.1, [], [], []⟩, d.1, h.2)
def addV (n : Nd) (k v : ByteArray) : Nd := ⟨n.level, n.lsn, n.right, n.high, n.keys ++ [k], n.vals ++ [v], n.kids⟩
def addK (n : Nd) (k : ByteArray) (v : Int) : Nd := ⟨n.level, n.lsn, n.right, n.high, n.keys ++ [k], n.vals, n.kids ++ [v]⟩
def rdEnt (m : Nat) (x : Nd × RSt) : Nd × RSt :=
  let k := rdT m x.2
  if 0 < x.1.level then (addK x.1 k.1 (rdN 4 k.2).1, (rdN 4 k.2).2) else (addV x.1 k.1 (rdT m k.2).1, (rdT m k.2).2)
def rdEnts (m : Nat) : Nat → Nd × RSt → Nd × RSt
  | 0, x => x
  | i + 1, x => rdEnt m (rdEnts m i x)

theorem rdN_ok {k v : Nat} {rest : List UInt8} (hv : v < 256 ^ k) (h63 : v < 9223372036854775808) : rdN k (leB v k ++ rest, 0) = ((v : Int), (rest, 0)) := by
  have hl := leB_len v k
  have ht : (leB v k ++ rest).take k = leB v k := by rw [List.take_append_of_le_length (by omega), List.take_of_length_le (by omega)]
  have hd : (leB v k ++ rest).drop k = rest := by rw [List.drop_append_of_le_length (by omega), List.drop_of_length_le (by omega), List.nil_append]
  unfold rdN
  rw [rNum_ok (by rw [List.length_append, hl]; omega) (by rw [ht, leN_leB _ _ hv]; exact h63), ht, hd, leN_leB _ _ hv]
theorem rdT_ok {m : Nat} {t : ByteArray} {rest : List UInt8} (hm : t.size ≤ m) (h16 : t.size < 65536) : rdT m (textB t ++ rest, 0) = (t, (rest, 0)) := by
  have hl : (textB t).length = 2 + t.size := textB_len t
  have h2 : (textB t ++ rest).take 2 = leB t.size 2 := by
    rw [textB, List.append_assoc, List.take_append_of_le_length (by rw [leB_len]; omega), List.take_of_length_le (by rw [leB_len]; omega)]
  have h3 : leN ((textB t ++ rest).take 2) = t.size := by rw [h2, leN_leB _ _ (by omega)]
  have hd2 : (textB t ++ rest).drop 2 = t.toList ++ rest := by
    rw [textB, List.append_assoc, List.drop_append_of_le_length (by rw [leB_len]; omega), List.drop_of_length_le (by rw [leB_len]; omega), List.nil_append]
  have hd3 : (textB t ++ rest).drop (2 + t.size) = rest := by
    rw [List.drop_append_of_le_length (by omega), List.drop_of_length_le (by omega), List.nil_append]
  unfold rdT
  rw [rText_ok (by rw [List.length_append]; omega) (by rw [h3, List.length_append]; omega) (by rw [h3]; exact hm), h3, hd2, hd3]
  have e : (t.toList ++ rest).take t.size = t.toList := by rw [List.take_append_of_le_length (by rw [size_list]; omega), List.take_of_length_le (by rw [size_list]; omega)]
  simp only [e, bsStr_of]
theorem rdT_size (m : Nat) (s : RSt) : (rdT m s).1.size ≤ m := by
  unfold rdT
  simp only [bsStr_size]
  unfold rText
  split
  · simp
  · split
    · simp
    · split
      · simp
      · simp only [List.length_take]; omega
theorem rNum_rest (bs : List UInt8) (er : Int) (k : Nat) : (rNum bs er k).2.2.1.length ≤ bs.length := by
  unfold rNum; split <;> (try split) <;> (try split) <;> simp
theorem rText_rest (bs : List UInt8) (er : Int) (k : Nat) : (rText bs er k).2.2.1.length ≤ bs.length := by
  unfold rText; split <;> (try split) <;> (try split) <;> simp
theorem rdN_rest (k : Nat) (s : RSt) : (rdN k s).2.1.length ≤ s.1.length := rNum_rest _ _ _
theorem rdT_rest (k : Nat) (s : RSt) : (rdT k s).2.1.length ≤ s.1.length := rText_rest _ _ _

/-- A right node's first entries. -/
def cutN (n : Nd) (i : Nat) : Nd := ⟨n.level, n.lsn, n.right, n.high, n.keys.take i, n.vals.take i, if n.level = 0 then [] else n.kids.take (i + 1)⟩
/-- The bytes behind a right node's first entries. -/
def restB (n : Nd) (tail : List UInt8) (i : Nat) : List UInt8 := (bodyB n).drop ((if n.level = 0 then leafB n.keys n.vals i else kidsB n.keys n.kids (i + 1)).length) ++ tail

theorem leafB_split (keys vals : List ByteArray) (m : Nat) : ∀ i, i ≤ m → ∃ r, leafB keys vals m = leafB keys vals i ++ r ∧ (i < m → ∃ r', r = textB (txt keys i) ++ (textB (txt vals i) ++ r') ∧ leafB keys vals m = leafB keys vals (i + 1) ++ r') := by
  induction m with
  | zero =>
            intro i hi
            obtain rfl : i = 0 := (by omega)
            exact ⟨[], rfl, fun h => by omega⟩
  | succ m ih =>
    intro i hi
    by_cases h : i = m + 1
    · subst h; exact ⟨[], by simp, fun h => by omega⟩
    · obtain ⟨r, h1, h2⟩ := ih i (by omega)
      refine ⟨r ++ (textB (txt keys m) ++ textB (txt vals m)), by rw [leafB, h1, List.append_assoc], fun _ => ?_⟩
      by_cases hm : i = m
      · subst hm
        have hr : r = [] := by simpa using h1
        exact ⟨[], by rw [hr]; simp, by simp [leafB]⟩
      · obtain ⟨r', h3, h4⟩ := h2 (by omega)
        exact ⟨r' ++ (textB (txt keys m) ++ textB (txt vals m)), by rw [h3]; simp, by rw [leafB, h4, List.append_assoc]⟩
theorem kidsB_split (keys : List ByteArray) (kids : List Int) (m : Nat) : ∀ i, i ≤ m → ∃ r, kidsB keys kids (m + 1) = kidsB keys kids (i + 1) ++ r ∧ (i < m → ∃ r', r = textB (txt keys i) ++ (leB (num kids (i + 1)).toNat 4 ++ r') ∧ kidsB keys kids (m + 1) = kidsB keys kids (i + 1 + 1) ++ r') := by
  induction m with
  | zero =>
            intro i hi
            obtain rfl : i = 0 := (by omega)
            exact ⟨[], by simp, fun h => by omega⟩
  | succ m ih =>
    intro i hi
    by_cases h : i = m + 1
    · subst h; exact ⟨[], by simp, fun h => by omega⟩
    · obtain ⟨r, h1, h2⟩ := ih i (by omega)
      have e : kidsB keys kids (m + 1 + 1) = kidsB keys kids (m + 1) ++ (textB (txt keys m) ++ leB (num kids (m + 1)).toNat 4) := by
        rw [kidsB, if_neg (by omega), Nat.add_sub_cancel]
      refine ⟨r ++ (textB (txt keys m) ++ leB (num kids (m + 1)).toNat 4), by rw [e, h1, List.append_assoc], fun _ => ?_⟩
      by_cases hm : i = m
      · subst hm
        have hr : r = [] := by simpa using h1
        exact ⟨[], by rw [hr]; simp, by simp⟩
      · obtain ⟨r', h3, h4⟩ := h2 (by omega)
        exact ⟨r' ++ (textB (txt keys m) ++ leB (num kids (m + 1)).toNat 4), by rw [h3]; simp, by rw [e, h4, List.append_assoc]⟩

theorem rdHead_ok {n : Nd} (F : Fit n) (m : Nat) (hm : 32 ≤ m) (tail : List UInt8) : rdHead m (rawB n ++ tail, 0) = (cutN n 0, (n.keys.length : Int), (restB n tail 0, 0)) := by
  have h0 := F.level0
  have h1 := F.level
  have h2 := F.lsn0
  have h3 := F.lsn
  have h4 := F.right0
  have h5 := F.right
  have h6 := F.many.1
  have h7 := F.high
  have e1 : rdN 1 (rawB n ++ tail, 0) = (n.level, (leB n.lsn.toNat 8 ++ (leB n.right.toNat 4 ++ (leB n.keys.length 2 ++ (textB n.high ++ (bodyB n ++ tail)))), 0)) := by
    have := rdN_ok (k := 1) (v := n.level.toNat) (rest := leB n.lsn.toNat 8 ++ (leB n.right.toNat 4 ++ (leB n.keys.length 2 ++ (textB n.high ++ (bodyB n ++ tail))))) (by omega) (by omega)
    rw [Int.toNat_of_nonneg h0] at this
    rw [← this]; simp only [rawB, headL, List.append_assoc]
  have e2 : ∀ r, rdN 8 (leB n.lsn.toNat 8 ++ r, 0) = (n.lsn, (r, 0)) := fun r => by
    have := rdN_ok (k := 8) (v := n.lsn.toNat) (rest := r) (by omega) (by omega)
    rw [Int.toNat_of_nonneg h2] at this; exact this
  have e3 : ∀ r, rdN 4 (leB n.right.toNat 4 ++ r, 0) = (n.right, (r, 0)) := fun r => by
    have := rdN_ok (k := 4) (v := n.right.toNat) (rest := r) (by omega) (by omega)
    rw [Int.toNat_of_nonneg h4] at this; exact this
  have e4 : ∀ r, rdN 2 (leB n.keys.length 2 ++ r, 0) = ((n.keys.length : Int), (r, 0)) := fun r => rdN_ok (k := 2) (by omega) (by omega)
  have e5 : ∀ r, rdT m (textB n.high ++ r, 0) = (n.high, (r, 0)) := fun r => rdT_ok (by omega) (by omega)
  unfold rdHead
  simp only [e1, e2, e3, e4, e5]
  by_cases hl : n.level = 0
  · rw [if_neg (by omega)]
    simp [cutN, restB, hl, leafB]
  · rw [if_pos (by omega)]
    obtain ⟨a, b, c⟩ := F.inner hl
    have hk : num n.kids 0 ∈ n.kids := by
      have : n.kids[0]? = some (n.kids[0]'(by omega)) := List.getElem?_eq_getElem _
      rw [num_get this]; exact List.getElem_mem _
    have hkk := c _ hk
    obtain ⟨r, h8, _⟩ := kidsB_split n.keys n.kids n.keys.length 0 (Nat.zero_le _)
    have hb : bodyB n = leB (num n.kids 0).toNat 4 ++ r := by
      rw [bodyB, if_neg hl, a, h8]; simp [kidsB]
    have e6 : ∀ r, rdN 4 (leB (num n.kids 0).toNat 4 ++ r, 0) = (num n.kids 0, (r, 0)) := fun r => by
      have := rdN_ok (k := 4) (v := (num n.kids 0).toNat) (rest := r) (by omega) (by omega)
      rw [Int.toNat_of_nonneg (by omega)] at this; exact this
    have hk1 : n.kids.take 1 = [num n.kids 0] := by
      have : n.kids[0]? = some (n.kids[0]'(by omega)) := List.getElem?_eq_getElem _
      rw [num_get this, List.take_one, List.head?_eq_getElem?, this]; rfl
    rw [hb, List.append_assoc, e6]
    simp only [cutN, restB, hl, if_false, List.take_zero, Nat.zero_add, hk1, hb]
    have hd : (kidsB n.keys n.kids 1).length = 4 := by simp [kidsB, leB_len]
    rw [hd, List.drop_append_of_le_length (by rw [leB_len]; omega), List.drop_of_length_le (by rw [leB_len]; omega), List.nil_append]

theorem rdEnt_ok {n : Nd} (F : Fit n) (m : Nat) (hm : 32 ≤ m) (tail : List UInt8) (i : Nat) (hi : i < n.keys.length) : rdEnt m (cutN n i, (restB n tail i, 0)) = (cutN n (i + 1), (restB n tail (i + 1), 0)) := by
  have hg : n.keys[i]? = some (txt n.keys i) := by
    have : n.keys[i]? = some (n.keys[i]'hi) := List.getElem?_eq_getElem _
    rw [txt_get this]; exact this
  have hks := (F.keys _ (List.mem_of_getElem? hg)).2
  have h0 := F.level0
  by_cases hl : n.level = 0
  · obtain ⟨a, b, c⟩ := F.leaf hl
    have hgv : n.vals[i]? = some (txt n.vals i) := by
      have : n.vals[i]? = some (n.vals[i]'(by omega)) := List.getElem?_eq_getElem _
      rw [txt_get this]; exact this
    have hvs := c _ (List.mem_of_getElem? hgv)
    obtain ⟨r, h1, h2⟩ := leafB_split n.keys n.vals n.vals.length i (by omega)
    obtain ⟨r', h3, h4⟩ := h2 (by omega)
    have e1 : restB n tail i = textB (txt n.keys i) ++ (textB (txt n.vals i) ++ (r' ++ tail)) := by
      simp only [restB, bodyB, hl, if_true]; rw [h1, List.drop_left, h3]; simp
    have e2 : restB n tail (i + 1) = r' ++ tail := by
      simp only [restB, bodyB, hl, if_true]; rw [h4, List.drop_left]
    unfold rdEnt
    rw [e1, e2]
    simp only [rdT_ok (m := m) (t := txt n.keys i) (rest := textB (txt n.vals i) ++ (r' ++ tail)) (by omega) (by omega), rdT_ok (m := m) (t := txt n.vals i) (rest := r' ++ tail) (by omega) (by omega)]
    rw [if_neg (by simp [cutN, hl])]
    simp only [cutN, addV, hl, if_true, take_snoc_get hg, take_snoc_get hgv]
  · obtain ⟨a, b, c⟩ := F.inner hl
    have hgv : n.kids[i + 1]? = some (num n.kids (i + 1)) := by
      have : n.kids[i + 1]? = some (n.kids[i + 1]'(by omega)) := List.getElem?_eq_getElem _
      rw [num_get this]; exact this
    have hvs := c _ (List.mem_of_getElem? hgv)
    obtain ⟨r, h1, h2⟩ := kidsB_split n.keys n.kids n.keys.length i (by omega)
    obtain ⟨r', h3, h4⟩ := h2 (by omega)
    have e1 : restB n tail i = textB (txt n.keys i) ++ (leB (num n.kids (i + 1)).toNat 4 ++ (r' ++ tail)) := by
      simp only [restB, bodyB, hl, if_false]; rw [a, h1, List.drop_left, h3]; simp
    have e2 : restB n tail (i + 1) = r' ++ tail := by
      simp only [restB, bodyB, hl, if_false]; rw [a, h4, List.drop_left]
    have e3 : rdN 4 (leB (num n.kids (i + 1)).toNat 4 ++ (r' ++ tail), 0) = (num n.kids (i + 1), (r' ++ tail, 0)) := by
      have := rdN_ok (k := 4) (v := (num n.kids (i + 1)).toNat) (rest := r' ++ tail) (by omega) (by omega)
      rw [Int.toNat_of_nonneg (by omega)] at this; exact this
    unfold rdEnt
    rw [e1, e2]
    simp only [rdT_ok (m := m) (t := txt n.keys i) (rest := leB (num n.kids (i + 1)).toNat 4 ++ (r' ++ tail)) (by omega) (by omega), e3]
    rw [if_pos (by simp only [cutN]; omega)]
    simp only [cutN, addK, hl, if_false, take_snoc_get hg, take_snoc_get hgv, b, List.take_nil]

theorem rdEnts_ok {n : Nd} (F : Fit n) (m : Nat) (hm : 32 ≤ m) (tail : List UInt8) : ∀ i, i ≤ n.keys.length → rdEnts m i (cutN n 0, (restB n tail 0, 0)) = (cutN n i, (restB n tail i, 0))
  | 0, _ => rfl
  | i + 1, hi => by rw [rdEnts, rdEnts_ok F m hm tail i (by omega), rdEnt_ok F m hm tail i (by omega)]
theorem cutN_all {n : Nd} (F : Fit n) : cutN n n.keys.length = n := by
  obtain ⟨level, lsn, right, high, keys, vals, kids⟩ := n
  by_cases hl : level = 0
  · obtain ⟨a, b, c⟩ := F.leaf hl
    simp only at a b
    simp only [cutN, hl, if_true, List.take_length, b]
    rw [List.take_of_length_le (by omega)]
  · obtain ⟨a, b, c⟩ := F.inner hl
    simp only at a b
    simp only [cutN, hl, if_false, List.take_length, b, List.take_nil]
    rw [List.take_of_length_le (by omega)]
/-- THERE AND BACK. -/
theorem rd_back {n : Nd} (F : Fit n) (m : Nat) (hm : 32 ≤ m) (tail : List UInt8) :
    rdHead m (rawB n ++ tail, 0) = (cutN n 0, (n.keys.length : Int), (restB n tail 0, 0)) ∧ (∀ i, i ≤ n.keys.length → (rdEnts m i (cutN n 0, (restB n tail 0, 0))).2.2 = 0) ∧ (rdEnts m n.keys.length (cutN n 0, (restB n tail 0, 0))).1 = n :=
  ⟨rdHead_ok F m hm tail, fun i hi => by rw [rdEnts_ok F m hm tail i hi], by rw [rdEnts_ok F m hm tail _ (Nat.le_refl _), cutN_all F]⟩

theorem sealB_open (xs : List UInt8) : openOk (sealB xs) ∧ (sealB xs).take ((sealB xs).length - 4) = xs := by
  have hl := sealB_len xs
  have ht : (sealB xs).take ((sealB xs).length - 4) = xs := by
    rw [hl, Nat.add_sub_cancel, sealB, List.take_left]
  have hd : (sealB xs).drop ((sealB xs).length - 4) = leB (sumB xs) 4 := by
    rw [hl, Nat.add_sub_cancel, sealB, List.drop_left]
  exact ⟨⟨by omega, by rw [hd, ht, leN_leB _ _ (sumB_lt xs)]⟩, ht⟩

/-- Which node a page is: at most one. -/
def pageOf (b : List UInt8) (n : Nd) : Prop := okB n = true ∧ n.keys.length ≤ 140737488351232 ∧ encB n = b
theorem pageOf_fit {b : List UInt8} {n : Nd} (h : pageOf b n) : Fit n := okB_fit h.1 h.2.1
theorem pageOf_len {b : List UInt8} {n : Nd} (h : pageOf b n) : b.length = 256 := by rw [← h.2.2, (pageOf_fit h).enc_len]
theorem pageOf_raw {b : List UInt8} {n : Nd} (h : pageOf b n) : openOk b ∧ b.take 252 = rawB n ++ List.replicate (252 - (rawB n).length) 0 := by
  have hl := pageOf_len h
  have := sealB_open (padB (rawB n))
  rw [← encB, h.2.2, hl] at this
  exact ⟨this.1, this.2⟩
theorem pageOf_one {b : List UInt8} {n n' : Nd} (h : pageOf b n) (h' : pageOf b n') : n = n' := by
  have r1 := (pageOf_raw h).2
  have r2 := (pageOf_raw h').2
  have b1 := rd_back (pageOf_fit h) 252 (by omega) (List.replicate (252 - (rawB n).length) 0)
  have b2 := rd_back (pageOf_fit h') 252 (by omega) (List.replicate (252 - (rawB n').length) 0)
  rw [← r1] at b1
  rw [← r2, b1.1] at b2
  have e := b2.1
  simp only [Prod.mk.injEq] at e
  have e1 : n.keys.length = n'.keys.length := by have := e.2.1; omega
  have h3 := b1.2.2
  have h4 := b2.2.2
  rw [e.1, e1] at h3
  have e2 := e.2.2.1
  rw [e2] at h3
  rw [← h3, h4]
end Go.Proofs.Ythpfkdaijiaalaa
