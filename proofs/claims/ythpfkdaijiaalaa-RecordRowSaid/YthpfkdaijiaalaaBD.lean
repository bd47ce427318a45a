/- A record's frame: its bytes; what some bytes are read as. No program here. -/
import Derived.Test.YthpfkdaijiaalaaBA
import Derived.Test.YthpfkdaijiaalaaAG
namespace Go.Proofs.Ythpfkdaijiaalaa
open Go.RowKit

def zRc : Rc := ⟨0, 0, 0, 0, 0, 0, ⟨#[]⟩, ⟨#[]⟩⟩
/-- A record's bytes inside its frame. -/
def recL (r : Rc) : List UInt8 := leB r.lsn.toNat 8 ++ (leB r.epoch.toNat 8 ++ (leB r.kind.toNat 1 ++ (leB r.page.toNat 4 ++ (leB r.other.toNat 4 ++ (leB r.req.toNat 8 ++ (textB r.key ++ textB r.value))))))
/-- The frame: a text, sealed. -/
def frameB (r : Rc) : List UInt8 := sealB (textB (bsStr (recL r)))

/-- What a right record is. -/
structure FitR (r : Rc) : Prop where
  lsn1 : 1 ≤ r.lsn
  lsn : r.lsn ≤ 1099511627776
  epoch0 : 0 ≤ r.epoch
  epoch : r.epoch ≤ 1099511627776
  kind0 : 0 ≤ r.kind
  kind : r.kind ≤ 7
  page0 : 0 ≤ r.page
  page : r.page ≤ 4096
  other0 : 0 ≤ r.other
  other : r.other ≤ 4096
  req0 : 0 ≤ r.req
  req : r.req ≤ 1099511627776
  key : r.key.size ≤ 16
  value : r.value.size ≤ 256
theorem pagedB_iff {n : Int} : pagedB n = true ↔ 1 ≤ n ∧ n ≤ 4096 := by unfold pagedB; simp
theorem emptyB_size {s : ByteArray} (h : emptyB s = true) : s.size = 0 := by rw [size_list]; simp [emptyB] at h; simp [h]
theorem keyOk_size {s : ByteArray} (h : keyOk s = true) : s.size ≤ 16 := (keyCk_iff.1 h).2
theorem valOk_size {s : ByteArray} (h : valOk s = true) : s.size ≤ 32 := by
  unfold valOk valCk at h
  split at h
  · assumption
  · simp at h
theorem imgB_size {s : ByteArray} (h : imgB s = true) : s.size = 256 := by
  obtain ⟨n, hn, _⟩ := @of_decide_eq_true _ (Classical.propDecidable _) h
  rw [size_list, pageOf_len hn]
theorem okR_fit {r : Rc} (h : okR r = true) : FitR r := by
  simp only [okR, Bool.and_eq_true] at h
  obtain ⟨⟨h1, h2⟩, h3⟩ := h
  have hh := of_decide_eq_true h1
  have hreq : 0 ≤ r.req ∧ r.req ≤ 1099511627776 := by
    unfold reqB at h3
    split at h3
    · simp only [Bool.and_eq_true, decide_eq_true_eq] at h3; omega
    · simp at h3; omega
  have hb : 0 ≤ r.kind ∧ r.kind ≤ 7 ∧ (0 ≤ r.page ∧ r.page ≤ 4096) ∧ (0 ≤ r.other ∧ r.other ≤ 4096) ∧ r.key.size ≤ 16 ∧ r.value.size ≤ 256 := by
    unfold kindB at h2
    split at h2
    · simp only [Bool.and_eq_true, beq_iff_eq] at h2
      obtain ⟨⟨⟨a, b⟩, c⟩, d⟩ := h2
      have := emptyB_size c; have := emptyB_size d
      refine ⟨by omega, by omega, by omega, by omega, by omega, by omega⟩
    · split at h2
      · simp only [Bool.and_eq_true, beq_iff_eq] at h2
        obtain ⟨⟨⟨a, b⟩, c⟩, d⟩ := h2
        have := emptyB_size c; have := imgB_size d; have := pagedB_iff.1 a
        refine ⟨by omega, by omega, by omega, by omega, by omega, by omega⟩
      · split at h2
        · simp only [Bool.and_eq_true, beq_iff_eq] at h2
          obtain ⟨⟨⟨a, b⟩, c⟩, d⟩ := h2
          have := keyOk_size c; have := valOk_size d; have := pagedB_iff.1 a
          refine ⟨by omega, by omega, by omega, by omega, by omega, by omega⟩
        · split at h2
          · simp only [Bool.and_eq_true, beq_iff_eq] at h2
            obtain ⟨⟨⟨a, b⟩, c⟩, d⟩ := h2
            have := keyOk_size c; have := emptyB_size d; have := pagedB_iff.1 a
            refine ⟨by omega, by omega, by omega, by omega, by omega, by omega⟩
          · split at h2
            · simp only [Bool.and_eq_true] at h2
              obtain ⟨⟨⟨a, b⟩, c⟩, d⟩ := h2
              have := keyOk_size c; have := emptyB_size d; have := pagedB_iff.1 a; have := pagedB_iff.1 b
              refine ⟨by omega, by omega, by omega, by omega, by omega, by omega⟩
            · split at h2
              · simp only [Bool.and_eq_true, Bool.or_eq_true, beq_iff_eq] at h2
                obtain ⟨⟨⟨a, b⟩, c⟩, d⟩ := h2
                have := keyOk_size c
                have hv : r.value.size ≤ 256 := by
                  rcases d with d | ⟨_, d⟩
                  · have := emptyB_size d; omega
                  · have := valOk_size d; omega
                refine ⟨by omega, by omega, by omega, by omega, by omega, hv⟩
              · cases h2
  exact ⟨hh.1, hh.2.1, hh.2.2.1, hh.2.2.2, hb.1, hb.2.1, hb.2.2.1.1, hb.2.2.1.2, hb.2.2.2.1.1, hb.2.2.2.1.2, hreq.1, hreq.2, hb.2.2.2.2.1, hb.2.2.2.2.2⟩
theorem recL_len (r : Rc) : (recL r).length = 37 + r.key.size + r.value.size := by simp only [recL, List.length_append, leB_len, textB_len]; omega
theorem FitR.len {r : Rc} (F : FitR r) : (recL r).length ≤ 309 := by rw [recL_len]; have := F.key; have := F.value; omega
theorem frameB_len (r : Rc) : (frameB r).length = (recL r).length + 6 := by rw [frameB, sealB_len, textB_len, bsStr_size]; omega

/-- What is read of a frame's bytes. -/
def rdRec (s : RSt) : Rc × RSt :=
  let a := rdN 8 s
  let b := rdN 8 a.2
  let c := rdN 1 b.2
  let d := rdN 4 c.2
  let e := rdN 4 d.2
  let f := rdN 8 e.2
  let k := rdT 65535 f.2
  let v := rdT 65535 k.2
  (⟨a.1, b.1, c.1, d.1, e.1, f.1, k.1, v.1⟩, v.2)
theorem rdRec_ok {r : Rc} (F : FitR r) : rdRec (recL r, 0) = (r, ([], 0)) := by
  have h0 := F.lsn1; have h1 := F.lsn; have h2 := F.epoch0; have h3 := F.epoch; have h4 := F.kind0; have h5 := F.kind; have h6 := F.page0; have h7 := F.page
  have h8 := F.other0; have h9 := F.other; have h10 := F.req0; have h11 := F.req; have h12 := F.key; have h13 := F.value
  have e8 : ∀ (n : Int) (rest : List UInt8), 0 ≤ n → n ≤ 1099511627776 → rdN 8 (leB n.toNat 8 ++ rest, 0) = (n, (rest, 0)) := fun n rest a b => by
    have := rdN_ok (k := 8) (v := n.toNat) (rest := rest) (by omega) (by omega)
    rw [Int.toNat_of_nonneg a] at this; exact this
  have e4 : ∀ (n : Int) (rest : List UInt8), 0 ≤ n → n ≤ 4096 → rdN 4 (leB n.toNat 4 ++ rest, 0) = (n, (rest, 0)) := fun n rest a b => by
    have := rdN_ok (k := 4) (v := n.toNat) (rest := rest) (by omega) (by omega)
    rw [Int.toNat_of_nonneg a] at this; exact this
  have e1 : ∀ (n : Int) (rest : List UInt8), 0 ≤ n → n ≤ 7 → rdN 1 (leB n.toNat 1 ++ rest, 0) = (n, (rest, 0)) := fun n rest a b => by
    have := rdN_ok (k := 1) (v := n.toNat) (rest := rest) (by omega) (by omega)
    rw [Int.toNat_of_nonneg a] at this; exact this
  have et : ∀ (t : ByteArray) (rest : List UInt8), t.size ≤ 256 → rdT 65535 (textB t ++ rest, 0) = (t, (rest, 0)) := fun t rest a => rdT_ok (by omega) (by omega)
  have et' : rdT 65535 (textB r.value, 0) = (r.value, ([], 0)) := by have := et r.value [] (by omega); rwa [List.append_nil] at this
  unfold rdRec recL
  simp only [e8 r.lsn _ (by omega) (by omega), e8 r.epoch _ h2 h3, e1 r.kind _ h4 h5, e4 r.page _ h6 h7, e4 r.other _ h8 h9, e8 r.req _ h10 h11, et r.key _ (by omega), et']

/-- How long the frame is that some bytes say they begin with. -/
def fLen (b : List UInt8) : Nat := leN (b.take 2) + 6
/-- The bytes inside. -/
def fIn (b : List UInt8) : List UInt8 := (b.drop 2).take (leN (b.take 2))
/-- The record with whose frame bytes begin; how many bytes it has; what is wrong. -/
noncomputable def decRec (b : List UInt8) : Rc × Int × Int :=
  if b.length < 2 ∨ b.length < fLen b then (zRc, 0, 10)
  else if ¬ openOk (b.take (fLen b)) then (zRc, 0, 20)
  else if rEnd (rdRec (fIn b, 0)).2.1 (rdRec (fIn b, 0)).2.2 ≠ 0 ∨ okR (rdRec (fIn b, 0)).1 = false then (zRc, 0, 90)
  else ((rdRec (fIn b, 0)).1, (fLen b : Int), 0)

theorem frame_take2 {r : Rc} (F : FitR r) (more : List UInt8) : leN ((frameB r ++ more).take 2) = (recL r).length := by
  have h2 : (frameB r ++ more).take 2 = leB (recL r).length 2 := by
    rw [frameB, sealB, textB, bsStr_size, List.append_assoc, List.append_assoc, List.take_append_of_le_length (by rw [leB_len]; omega), List.take_of_length_le (by rw [leB_len]; omega)]
  rw [h2, leN_leB _ _ (by have := F.len; omega)]
theorem frame_fLen {r : Rc} (F : FitR r) (more : List UInt8) : fLen (frameB r ++ more) = (frameB r).length := by rw [fLen, frame_take2 F, frameB_len]
theorem frame_fIn {r : Rc} (F : FitR r) (more : List UInt8) : fIn (frameB r ++ more) = recL r := by
  rw [fIn, frame_take2 F, frameB, sealB, textB, bsStr_size, bsStr_toList]
  rw [List.append_assoc, List.append_assoc, List.drop_append_of_le_length (by rw [leB_len]; omega), List.drop_of_length_le (by rw [leB_len]; omega), List.nil_append]
  rw [List.take_append_of_le_length (by omega), List.take_of_length_le (by omega)]
/-- THERE. -/
theorem decRec_frame {r : Rc} (h : okR r = true) (more : List UInt8) : decRec (frameB r ++ more) = (r, ((frameB r).length : Int), 0) := by
  have F := okR_fit h
  have hl := frameB_len r
  have hr := rdRec_ok F
  have ho := (sealB_open (textB (bsStr (recL r)))).1
  unfold decRec
  rw [frame_fLen F, frame_fIn F, hr, List.take_left]
  rw [if_neg (by rw [List.length_append]; omega), if_neg (by rw [← frameB] at ho; exact fun h => h ho), if_neg (by simp only [h]; simp [rEnd])]
end Go.Proofs.Ythpfkdaijiaalaa
