/- What the record's statements ask first; frames written and read. -/
import Derived.Test.YthpfkdaijiaalaaBH
namespace Go.Proofs.Ythpfkdaijiaalaa
open Go.RowKit

def sp9 : Rc := ⟨1, 1, 1, 0, 0, 0, ⟨#[]⟩, ⟨#[]⟩⟩
theorem sp9_ok : okR sp9 = true := by kernel_rfl
theorem zRc_not : okR zRc = false := by kernel_rfl
theorem sp9_len : (frameB sp9).length = 43 := by rw [frameB_len, recL_len]; rfl
theorem sp9_dec : decRec (frameB sp9) = (sp9, 43, 0) := by
  have := decRec_frame sp9_ok []
  rw [List.append_nil, sp9_len] at this
  exact this
theorem sp9_S : RcS sp9 := ⟨by show (0 : Nat) ≤ _; omega, by show (0 : Nat) ≤ _; omega⟩
theorem zRc_S : RcS zRc := ⟨by show (0 : Nat) ≤ _; omega, by show (0 : Nat) ≤ _; omega⟩
theorem zRc_ck : ckR zRc = 90 := ckR_not zRc_not

set_option maxRecDepth 100000 in
set_option maxHeartbeats 4000000 in
theorem speaks9_any (w : World) : Calls Try.prog 39 #[] w fun e w' => e = .returned (.bool true) ∧ Ext w w' := by
  refine hide_post fun R hR => ?_
  go_enter Try.func39, Try.ntmps39
  go_wp2_with fail
  obtain ⟨W, hW⟩ : ∃ W, w.alloc (.cells #[.int .i64 1, .int .i64 1, .int .i64 1, .int .i64 0, .int .i64 0, .int .i64 0, .string ⟨#[]⟩, .string ⟨#[]⟩] 46) = W := ⟨_, rfl⟩
  have hcur := Hd.mk (Rx.first sp9 hW)
  rw [hW]
  clear hW
  obtain ⟨g, hg⟩ : ∃ g, w.heap.size = g := ⟨_, rfl⟩
  rw [hg] at hcur ⊢
  clear hg
  refine (rencode_any sp9 sp9_S W).mono ?_
  rintro e w1 ⟨hk, hy, -⟩
  obtain ⟨A, c, rfl, ho⟩ := hy sp9_ok
  rw [sp9_len] at ho ⊢
  have ho := Hd.mk ho
  have hcur1 := Hd.mk (hcur.out.go hk)
  clear hcur hk hy
  go_wp2_with fail
  refine (rdecode_any A 43 c (frameB sp9) w1 ho.out.sl (by omega)).mono ?_
  rintro e w2 ⟨rfl, hk⟩
  rw [sp9_dec]
  have hcur2 := Hd.mk (hcur1.out.go hk)
  clear hcur1 hk
  simp only [rcV, sp9]
  go_upto_region 4 with fail
  obtain ⟨W3, hW3⟩ : ∃ W, w2.alloc (.cells #[.int .i64 1, .int .i64 1, .int .i64 1, .int .i64 0, .int .i64 0, .int .i64 0, .string ⟨#[]⟩, .string ⟨#[]⟩] 46) = W := ⟨_, rfl⟩
  have hcm := Hd.mk (Rx.first sp9 hW3)
  rw [hW3]
  clear hW3
  obtain ⟨g', hg⟩ : ∃ g, w2.heap.size = g := ⟨_, rfl⟩
  rw [hg] at hcm ⊢
  clear hg
  have hcur3 := Hd.mk (hcur2.out.go hcm.out.ext)
  clear hcur2
  obtain ⟨hc0, hc1, hc2, hc3, hc4, hc5, hc6, hc7⟩ := rc_facts hcur3.out.box
  obtain ⟨hd0, hd1, hd2, hd3, hd4, hd5, hd6, hd7⟩ := rc_facts hcm.out.box
  go_wp2_with fail
  refine (rcheck_any zRc zRc_S W3).mono ?_
  rintro e w5 ⟨rfl, hk5⟩
  rw [zRc_ck]
  have hK5 := Hd.mk (hcur3.out.ext.then' hk5)
  go_wp2_with fail
  exact hR.out _ _ ⟨rfl, hK5.out⟩
end Go.Proofs.Ythpfkdaijiaalaa
