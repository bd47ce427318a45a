/- A frame's bytes, back: what is read is written the same; what is cut or turned is none. No program here. -/
import Derived.Test.YthpfkdaijiaalaaBG
namespace Go.Proofs.Ythpfkdaijiaalaa
open Go.RowKit

/-- A number that was read without a fault: the bytes are it, and the rest. -/
theorem rdN_back {k : Nat} {s : RSt} (h : (rdN k s).2.2 = 0) : s.2 = 0 ∧ s.1 = leB (rdN k s).1.toNat k ++ (rdN k s).2.1 := by
  obtain ⟨bs, er⟩ := s
  unfold rdN at h ⊢
  simp only at h ⊢
  unfold rNum at h ⊢
  by_cases he : er ≠ 0
  · rw [if_pos he] at h; exact absurd h he
  · rw [if_neg he] at h ⊢
    by_cases hl : bs.length < k
    · rw [if_pos hl] at h; simp at h
    · rw [if_neg hl] at h ⊢
      by_cases hb : 9223372036854775808 ≤ leN (bs.take k)
      · rw [if_pos hb] at h; simp at h
      · rw [if_neg hb]
        refine ⟨by omega, ?_⟩
        have ht : (bs.take k).length = k := by rw [List.length_take]; omega
        have := leB_leN (bs.take k)
        rw [ht] at this
        simp only [Int.toNat_natCast]
        rw [this, List.take_append_drop]
theorem rdN_err {k : Nat} {s : RSt} (h : (rdN k s).2.2 = 0) : s.2 = 0 := (rdN_back h).1
theorem rdT_back {m : Nat} {s : RSt} (h : (rdT m s).2.2 = 0) : s.2 = 0 ∧ s.1 = textB (rdT m s).1 ++ (rdT m s).2.1 := by
  obtain ⟨bs, er⟩ := s
  unfold rdT at h ⊢
  simp only at h ⊢
  unfold rText at h ⊢
  by_cases he : er ≠ 0
  · rw [if_pos he] at h; exact absurd h he
  · rw [if_neg he] at h ⊢
    by_cases hl : bs.length < 2 ∨ bs.length - 2 < leN (bs.take 2)
    · rw [if_pos hl] at h; simp at h
    · rw [if_neg hl] at h ⊢
      by_cases hb : m < leN (bs.take 2)
      · rw [if_pos hb] at h; simp at h
      · rw [if_neg hb]
        refine ⟨by omega, ?_⟩
        simp only
        have ht : (bs.take 2).length = 2 := by rw [List.length_take]; omega
        have hx := leB_leN (bs.take 2)
        rw [ht] at hx
        have hz : ((bs.drop 2).take (leN (bs.take 2))).length = leN (bs.take 2) := by rw [List.length_take, List.length_drop]; omega
        rw [textB, bsStr_size, bsStr_toList, hz, hx, List.append_assoc]
        have e : bs.drop (2 + leN (bs.take 2)) = (bs.drop 2).drop (leN (bs.take 2)) := by rw [List.drop_drop]
        rw [e, List.take_append_drop, List.take_append_drop]
theorem rdRec_back {bs : List UInt8} (h : rEnd (rdRec (bs, 0)).2.1 (rdRec (bs, 0)).2.2 = 0) : recL (rdRec (bs, 0)).1 = bs := by
  unfold rEnd at h
  by_cases he : (rdRec (bs, 0)).2.2 ≠ 0
  · rw [if_pos he] at h; exact absurd h he
  · rw [if_neg he] at h
    have he : (rdRec (bs, 0)).2.2 = 0 := by omega
    have hn : (rdRec (bs, 0)).2.1 = [] := by
      by_cases hn : (rdRec (bs, 0)).2.1 = []
      · exact hn
      · rw [if_neg hn] at h; simp at h
    unfold rdRec at he hn ⊢
    simp only at he hn ⊢
    have t8 := rdT_back he
    have t7 := rdT_back t8.1
    have t6 := rdN_back t7.1
    have t5 := rdN_back t6.1
    have t4 := rdN_back t5.1
    have t3 := rdN_back t4.1
    have t2 := rdN_back t3.1
    have t1 := rdN_back t2.1
    have e1 := t1.2
    rw [t2.2, t3.2, t4.2, t5.2, t6.2, t7.2, t8.2, hn, List.append_nil] at e1
    simp only at e1
    unfold recL
    exact e1.symm
/-- BACK: what was read is written the same. -/
theorem decRec_back {b : List UInt8} {r : Rc} {n : Int} (h : decRec b = (r, n, 0)) : okR r = true ∧ ∃ k : Nat, n = k ∧ k ≤ b.length ∧ b.take k = frameB r ∧ k = fLen b ∧ fIn b = recL r := by
  by_cases h1 : b.length < 2 ∨ b.length < fLen b
  · rw [decRec_short h1] at h; simp at h
  · by_cases h2 : openOk (b.take (fLen b))
    · by_cases h3 : (readR (fIn b)).2 = 0
      · obtain ⟨hg, hok⟩ := decRec_good h1 h2 h3
        rw [hg] at h
        simp only [Prod.mk.injEq] at h
        obtain ⟨rfl, rfl, _⟩ := h
        have hrd : recL (readR (fIn b)).1 = fIn b := by
          unfold readR at h3 ⊢
          split at h3
          · cases h3
          · rename_i he
            rw [if_neg he]
            exact rdRec_back (by omega)
        refine ⟨hok, fLen b, rfl, by omega, ?_, rfl, hrd.symm⟩
        unfold frameB
        rw [hrd]
        have hfl : fLen b = leN (b.take 2) + 6 := rfl
        have hl : (b.take (fLen b)).length = fLen b := by rw [List.length_take]; omega
        have hin : (fIn b).length = leN (b.take 2) := by unfold fIn; rw [List.length_take, List.length_drop]; omega
        have ho := h2.2
        rw [hl] at ho
        have ht : (b.take (fLen b)).take (fLen b - 4) = b.take (leN (b.take 2) + 2) := by rw [List.take_take]; congr 1; omega
        rw [ht] at ho
        have hx := leB_leN (b.take 2)
        rw [show (b.take 2).length = 2 by rw [List.length_take]; omega] at hx
        have hb : b.take (leN (b.take 2) + 2) = textB (bsStr (fIn b)) := by
          rw [textB, bsStr_size, bsStr_toList, hin, hx, fIn, show leN (b.take 2) + 2 = 2 + leN (b.take 2) by omega, List.take_add]
        have hs := leB_leN ((b.take (fLen b)).drop (fLen b - 4))
        rw [ho, List.length_drop, hl, show fLen b - (fLen b - 4) = 4 by omega, hb] at hs
        rw [sealB, hs, ← hb, ← ht, List.take_append_drop]
      · rw [decRec_bad h1 h2 h3] at h; simp at h
    · rw [decRec_sum h1 h2] at h; simp at h
/-- What is answered where no frame is. -/
theorem decRec_none {b : List UInt8} (h : (decRec b).2.2 ≠ 0) : (decRec b).1 = zRc ∧ (decRec b).2.1 = 0 := by
  by_cases h1 : b.length < 2 ∨ b.length < fLen b
  · rw [decRec_short h1]; exact ⟨rfl, rfl⟩
  · by_cases h2 : openOk (b.take (fLen b))
    · by_cases h3 : (readR (fIn b)).2 = 0
      · rw [(decRec_good h1 h2 h3).1] at h; exact absurd rfl h
      · rw [decRec_bad h1 h2 h3]; exact ⟨rfl, rfl⟩
    · rw [decRec_sum h1 h2]; exact ⟨rfl, rfl⟩
/-- A frame that is cut. -/
theorem decRec_cut {r : Rc} (F : FitR r) {k : Nat} (hk : k < (frameB r).length) : decRec ((frameB r).take k) = (zRc, 0, 10) := by
  refine decRec_short ?_
  by_cases h2 : k < 2
  · exact .inl (by rw [List.length_take]; omega)
  · refine .inr ?_
    have e : ((frameB r).take k).take 2 = (frameB r).take 2 := by rw [List.take_take]; congr 1; omega
    have := frame_take2 F []
    rw [List.append_nil] at this
    rw [fLen, e, this, List.length_take]
    have := frameB_len r
    omega
theorem rdRec_tail {r : Rc} (F : FitR r) (tail : List UInt8) : rdRec (recL r ++ tail, 0) = (r, (tail, 0)) := by
  have h0 := F.lsn1; have h1 := F.lsn; have h2 := F.epoch0; have h3 := F.epoch; have h4 := F.kind0; have h5 := F.kind; have h6 := F.page0; have h7 := F.page
  have h8 := F.other0; have h9 := F.other; have h10 := F.req0; have h11 := F.req; have h12 := F.key; have h13 := F.value
  have e8 : ∀ (n : Int) (rest : List UInt8), 0 ≤ n → n ≤ 1099511627776 → rdN 8 (leB n.toNat 8 ++ rest, 0) = (n, (rest, 0)) := fun n rest a b => by
    have := rdN_ok (k := 8) (v := n.toNat) (rest := rest) (by omega) (by omega)
    rw [Int.toNat_of_nonneg a] at this; exact this
  have e4 : ∀ (n : Int) (rest : List UInt8), 0 ≤ n → n ≤ 4096 → rdN 4 (leB n.toNat 4 ++ rest, 0) = (n, (rest, 0)) := fun n rest a b => by
    have := rdN_ok (k := 4) (v := n.toNat) (rest := rest) (by omega) (by omega)
    rw [Int.toNat_of_nonneg a] at this; exact this
  have e1 : ∀ (n : Int) (rest : List UInt8), 0 ≤ n → n ≤ 7 → rdN 1 (leB n.toNat 1 ++ rest, 0) = (n, (rest, 0)) := fun n rest a b => by
    have := rdN_ok (k := 1) (v := n.toNat) (rest := rest) (by omega) (by omega)
    rw [Int.toNat_of_nonneg a] at this; exact this
  have et : ∀ (t : ByteArray) (rest : List UInt8), t.size ≤ 256 → rdT 65535 (textB t ++ rest, 0) = (t, (rest, 0)) := fun t rest a => rdT_ok (by omega) (by omega)
  unfold rdRec recL
  simp only [List.append_assoc, e8 r.lsn _ (by omega) (by omega), e8 r.epoch _ h2 h3, e1 r.kind _ h4 h5, e4 r.page _ h6 h7, e4 r.other _ h8 h9, e8 r.req _ h10 h11, et r.key _ (by omega), et r.value _ (by omega)]
/-- A frame of which a byte is another. -/
theorem decRec_turned {r : Rc} (F : FitR r) {i : Nat} {x v : UInt8} (hx : (frameB r)[i]? = some x) (hv : v ≠ x) : (decRec ((frameB r).set i v)).2.2 ≠ 0 := by
  intro h0
  obtain ⟨hi, hxx⟩ := List.getElem?_eq_some_iff.1 hx
  have hb : decRec ((frameB r).set i v) = ((decRec ((frameB r).set i v)).1, (decRec ((frameB r).set i v)).2.1, 0) := by rw [← h0]
  obtain ⟨hok, k, hk, hkl, ht, hkk, hin⟩ := decRec_back hb
  have hl := frameB_len r
  rw [List.length_set] at hkl
  have hlen2 : (((frameB r).set i v).take k).length = k := by rw [List.length_take, List.length_set]; omega
  rw [ht] at hlen2
  by_cases hkf : k = (frameB r).length
  · -- the whole: its seal does not open
    have hall : ((frameB r).set i v).take k = (frameB r).set i v := List.take_of_length_le (by rw [List.length_set]; omega)
    rw [hall] at ht
    have hno : ¬ openOk ((frameB r).set i v) := by unfold frameB at hx ⊢; exact seal_set hx hv
    rw [ht] at hno
    exact hno (sealB_open (textB (bsStr (recL (decRec ((frameB r).set i v)).1)))).1
  · by_cases hi2 : 2 ≤ i
    · -- the length is as it was
      have e : ((frameB r).set i v).take 2 = (frameB r).take 2 := by rw [List.take_set, List.set_eq_of_length_le (by rw [List.length_take]; omega)]
      have := frame_take2 F []
      rw [List.append_nil] at this
      exact hkf (by rw [hkk, fLen, e, this, hl])
    · -- the length is another: what lies inside is a beginning of the record's bytes
      have ed : ((frameB r).set i v).drop 2 = (frameB r).drop 2 := by rw [List.drop_set, if_pos (by omega)]
      have efr : (frameB r).drop 2 = recL r ++ leB (sumB (textB (bsStr (recL r)))) 4 := by
        rw [frameB, sealB, textB, bsStr_size, bsStr_toList, List.append_assoc, List.drop_append_of_le_length (by rw [leB_len]; omega), List.drop_of_length_le (by rw [leB_len]; omega), List.nil_append]
      have hfl : fLen ((frameB r).set i v) = leN (((frameB r).set i v).take 2) + 6 := rfl
      have hin2 := hin
      rw [fIn, ed, efr] at hin
      rw [List.take_append_of_le_length (by omega)] at hin
      have F2 := okR_fit hok
      have h1 := rdRec_tail F2 ((recL r).drop (leN (((frameB r).set i v).take 2)))
      rw [← hin, List.take_append_drop, rdRec_ok F] at h1
      simp only [Prod.mk.injEq] at h1
      have h2 := congrArg List.length h1.2.1
      rw [List.length_drop] at h2
      simp only [List.length_nil] at h2
      omega
end Go.Proofs.Ythpfkdaijiaalaa
