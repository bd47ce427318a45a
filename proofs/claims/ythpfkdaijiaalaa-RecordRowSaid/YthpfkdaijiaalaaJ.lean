/- The reference's Open. -/
import Derived.Test.YthpfkdaijiaalaaI
namespace Go.Proofs.Ythpfkdaijiaalaa
open Go.RowKit

set_option maxRecDepth 100000 in
theorem refopen_any (A : Option Addr) (n c : Nat) (xs : List UInt8) (w : World) (hs : SlAt enc8 w A n c xs) (hn : n ≤ 140737488355328) :
    Calls Try.prog 103 #[.slice A n c] w (RetOpenR w xs) := by
  refine hide_post fun R hR => ?_
  have HS := Hd.mk hs; clear hs
  have HN := Hd.mk hn; clear hn
  have hnb : (n : Int) ≤ 140737488355328 := by have := HN.out; omega
  by_cases h4 : n < 4
  · have hd : (n : Int) - 4 < 0 := by omega
    have h4 := Hd.mk h4
    go_enter Try.func103, Try.ntmps103
    go_wp2
    have hl := HS.out.len
    exact hR.out _ _ ⟨ext_refl w, _, _, _, by rw [if_pos (by have := h4.out; omega)]; rfl⟩
  · obtain ⟨m, rfl⟩ : ∃ m, n = m + 4 := ⟨n - 4, by omega⟩
    clear h4
    have hm0 : (0 : Int) ≤ (m : Int) := by omega
    have hmb : (m : Int) ≤ 140737488355328 := by have := HN.out; omega
    clear hnb
    have hL : Hd (xs.length - 4 = m ∧ 4 ≤ xs.length) := ⟨by have := HS.out.len; omega⟩
    obtain ⟨A1, N1, c1, hN1, hs1, ha1, hcut⟩ := cut_from Try.E8 HS.out m (by omega)
    obtain ⟨ht, hcut2⟩ := cut_to Try.E8 HS.out m (by omega)
    have hsum : ((m + 4 : Nat) : Int) - 4 = (m : Int) := by omega
    have HB := Hd.mk (sumB_lt (xs.take m))
    obtain ⟨S1, hS1⟩ : ∃ S, Hd (bsStr (xs.drop m) = S) := ⟨_, ⟨rfl⟩⟩
    obtain ⟨S2, hS2⟩ : ∃ S, Hd (bsStr (leB (sumB (xs.take m)) 4) = S) := ⟨_, ⟨rfl⟩⟩
    have hcv : Hd (∀ W, Ext w W → (convert 31 9 (.slice A1 N1 c1)).run Try.prog W = .ok (.string S1) W) := ⟨fun W h => by rw [run_conv8 (P := Try.prog) (dst := 9) Try.underlying31 Try.underlying5 Try.underlying9 (hs1.out.ext h), hS1.out]⟩
    have hcv0 := hcv.out _ ((ext_refl w).drew)
    obtain ⟨bq, hbq⟩ : ∃ b, (S1.toList == S2.toList) = b := ⟨_, rfl⟩
    have Hok : Hd (openOk xs ↔ bq = true) := ⟨by
      have hl4 : (xs.drop m).length = 4 := by rw [List.length_drop, HS.out.len]; omega
      rw [← hbq, ← hS1.out, ← hS2.out, bsStr_toList, bsStr_toList]
      have e1 := leB_leN (xs.drop m)
      rw [hl4] at e1
      unfold openOk
      rw [hL.out.1]
      constructor
      · intro h; rw [← h.2, e1]; simp
      · intro h
        refine ⟨hL.out.2, ?_⟩
        have h2 : xs.drop m = leB (sumB (xs.take m)) 4 := by simpa using h
        rw [h2, leN_leB _ _ (by have := HB.out; omega)]⟩
    go_enter Try.func103, Try.ntmps103
    go_wp2_with fail
    go_region_with (first | (go_at_call 125; refine (refsum_any A m c _ _ (ht.out.ext ((ext_refl w).drew)) (by omega)).mono ?_; rintro e w1 ⟨rfl, rfl⟩) | (go_at_call 86; refine (refnum_get _ 4 (by omega) (by have := HB.out; omega) _).mono ?_; rintro e w2 ⟨A2, c2, rfl, ho2, hk2⟩; have hkk : Hd (Ext w w2) := ⟨((ext_refl w).drew).ext hk2⟩; have hcv2 := hcv.out _ hkk.out; have hcv3 := run_conv8 (P := Try.prog) (dst := 9) Try.underlying31 Try.underlying5 Try.underlying9 ho2.sl; rw [hS2.out] at hcv3; clear ho2 hk2))
    all_goals
      clear hcv2
      cases bq with
      | true =>
        go_wp2
        exact hR.out _ _ ⟨hkk.out, _, _, _, by rw [if_neg (by have := hL.out; omega), if_pos (by have := Hok.out; simpa using this)]⟩
      | false =>
        go_wp2
        exact hR.out _ _ ⟨hkk.out, _, _, _, by rw [if_neg (by have := hL.out; omega), if_neg (by have := Hok.out; simpa using this)]; rfl⟩
end Go.Proofs.Ythpfkdaijiaalaa
