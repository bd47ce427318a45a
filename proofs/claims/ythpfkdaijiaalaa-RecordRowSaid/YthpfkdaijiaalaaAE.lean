/- The node's statements: there and back. -/
import Derived.Test.YthpfkdaijiaalaaAD
namespace Go.Proofs.Ythpfkdaijiaalaa
open Go.RowKit

set_option maxRecDepth 100000 in
set_option maxHeartbeats 4000000 in
/-- The second half: what is read is written the same. -/
theorem lawBack (n : Nd) (A4 : Option Addr) (n4 c4 : Nat) (A5 : Option Addr) (n5 c5 : Nat) (A6 : Option Addr) (n6 c6 : Nat) (A : Option Addr) (k c : Nat) (b : List UInt8) (w : World) (h : NdAt w n A4 n4 c4 A5 n5 c5 A6 n6 c6) (hs : SlAt enc8 w A k c b) (hn : k ≤ 140737488355328) :
    Calls Try.prog 6 #[ndV n A4 n4 c4 A5 n5 c5 A6 n6 c6, .slice A k c] w fun e w' => e = .returned (.bool true) ∧ Ext w w' := by
  refine hide_post fun R hR => ?_
  have H := Hd.mk h; clear h
  have HS := Hd.mk hs; clear hs
  have HN := Hd.mk hn; clear hn
  obtain ⟨level, lsn, right, high, keys, vals, kids⟩ := n
  simp only [ndV]
  go_enter Try.func6, Try.ntmps6
  go_wp2_with fail
  obtain ⟨W, hW⟩ : ∃ W, w.alloc (.cells #[.int .i64 level, .int .i64 lsn, .int .i64 right, .string high, .slice A4 n4 c4, .slice A5 n5 c5, .slice A6 n6 c6] 25) = W := ⟨_, rfl⟩
  have hcur := Hd.mk (Bx.first H.out hW)
  rw [hW]
  clear hW
  obtain ⟨g, hg⟩ : ∃ g, w.heap.size = g := ⟨_, rfl⟩
  rw [hg] at hcur ⊢
  clear hg
  cases hok : okB ⟨level, lsn, right, high, keys, vals, kids⟩ with
  | true =>
    have hpg : Hd (pageOf (encB ⟨level, lsn, right, high, keys, vals, kids⟩) ⟨level, lsn, right, high, keys, vals, kids⟩) := ⟨⟨hok, by have := H.out.b4; have := H.out.keys.len; omega, rfl⟩⟩
    refine (encode_yes _ _ _ _ _ _ _ _ _ _ W hcur.out.nd hok).mono ?_
    rintro e w1 ⟨A1, c1, rfl, ho, hk⟩
    have hcur1 := Hd.mk (hcur.out.go hk)
    have ho := Hd.mk ho
    clear hcur hk hok
    go_wp2_with fail
    refine (decode_yes A1 256 c1 _ w1 ho.out.sl (by omega) _ hpg.out).mono ?_
    rintro e w2 ⟨B4, m4, d4, B5, m5, d5, B6, m6, d6, rfl, hm, hk⟩
    have hcur2 := Hd.mk (hcur1.out.go hk)
    have hm := Hd.mk hm
    clear hk hcur1 ho
    simp only [ndV]
    go_upto_region 4 with fail
    obtain ⟨W2, hW⟩ : ∃ W, w2.alloc (.cells #[.int .i64 level, .int .i64 lsn, .int .i64 right, .string high, .slice B4 m4 d4, .slice B5 m5 d5, .slice B6 m6 d6] 25) = W := ⟨_, rfl⟩
    have hcur' := Hd.mk (nd_alloc hm.out hW)
    rw [hW]
    clear hW
    obtain ⟨g', hg⟩ : ∃ g, w2.heap.size = g := ⟨_, rfl⟩
    rw [hg] at hcur' ⊢
    clear hg
    have hcur3 := Hd.mk (hcur2.out.go hcur'.out.ext)
    clear hcur2
    obtain ⟨hc0, hc1, hc2, hc3, hc4, hc5, hc6⟩ := nd_facts hcur3.out.box
    obtain ⟨he0, he1, he2, he3, he4, he5, he6⟩ := nd_facts hcur'.out.box
    go_wp2_with fail
    refine (node_same _ _ _ _ _ _ _ _ _ _ _ _ _ _ _ _ _ _ _ W2 hcur'.out.nd hcur3.out.nd).mono ?_
    rintro e w4 ⟨rfl, hk⟩
    have hk4 := Hd.mk (hcur3.out.ext.then' hk)
    clear hk hcur3 hcur' hc0 hc1 hc2 hc3 hc4 hc5 hc6 he0 he1 he2 he3 he4 he5 he6 hpg hm
    go_wp2_with fail
    refine (decode_any A k c b w4 (HS.out.ext hk4.out) HN.out).mono ?_
    rintro e w5 ⟨m, x, B4, m4, d4, B5, m5, d5, B6, m6, d6, rfl, hm, hk, hd⟩
    have hk5 := Hd.mk (hk4.out.then' hk)
    have hm := Hd.mk hm
    clear hk hk4
    rcases hd with ⟨rfl, hp⟩ | ⟨rfl, rfl, -⟩
    · have hp := Hd.mk hp
      obtain ⟨level', lsn', right', high', keys', vals', kids'⟩ := m
      simp only [ndV]
      go_upto_region 7 with fail
      obtain ⟨W6, hW⟩ : ∃ W, w5.alloc (.cells #[.int .i64 level', .int .i64 lsn', .int .i64 right', .string high', .slice B4 m4 d4, .slice B5 m5 d5, .slice B6 m6 d6] 25) = W := ⟨_, rfl⟩
      have hcur' := Hd.mk (nd_alloc hm.out hW)
      rw [hW]
      clear hW
      obtain ⟨g', hg⟩ : ∃ g, w5.heap.size = g := ⟨_, rfl⟩
      rw [hg] at hcur' ⊢
      clear hg
      obtain ⟨he0, he1, he2, he3, he4, he5, he6⟩ := nd_facts hcur'.out.box
      go_wp2_with fail
      refine (encode_yes _ _ _ _ _ _ _ _ _ _ W6 hcur'.out.nd hp.out.1).mono ?_
      rintro e w7 ⟨A7, c7, rfl, ho, hk⟩
      rw [hp.out.2.2] at ho
      have hk7 := Hd.mk ((hk5.out.then' hcur'.out.ext).then' hk)
      have hcv1 := conv8 ho.sl
      have hcv2 := conv8 (HS.out.ext hk7.out)
      clear hk hcur' he0 he1 he2 he3 he4 he5 he6 ho
      obtain ⟨S, hS⟩ : ∃ S, bsStr b = S := ⟨_, rfl⟩
      rw [hS] at hcv1 hcv2
      clear hS
      go_wp2_with fail
      refine (speaks6_any w7).mono ?_
      rintro e w8 ⟨rfl, hk⟩
      have hk8 := Hd.mk hk
      clear hk
      go_wp2_with fail
      exact hR.out _ _ ⟨rfl, hk7.out.then' hk8.out⟩
    · simp only [ndV, zNd]
      go_upto_region 7 with fail
      obtain ⟨W6, hW⟩ : ∃ W, w5.alloc (.cells #[.int .i64 0, .int .i64 0, .int .i64 0, .string ⟨#[]⟩, .slice B4 m4 d4, .slice B5 m5 d5, .slice B6 m6 d6] 25) = W := ⟨_, rfl⟩
      have hcur' := Hd.mk (nd_alloc hm.out hW)
      rw [hW]
      clear hW
      obtain ⟨g', hg⟩ : ∃ g, w5.heap.size = g := ⟨_, rfl⟩
      rw [hg] at hcur' ⊢
      clear hg
      obtain ⟨he0, he1, he2, he3, he4, he5, he6⟩ := nd_facts hcur'.out.box
      go_wp2_with fail
      refine (node_same zNd _ _ _ _ _ _ _ _ _ _ _ _ _ _ _ _ _ _ W6 hcur'.out.nd (zNd_at W6)).mono ?_
      rintro e w7 ⟨rfl, hk⟩
      have hk7 := Hd.mk ((hk5.out.then' hcur'.out.ext).then' hk)
      clear hk hcur' he0 he1 he2 he3 he4 he5 he6
      go_wp2_with fail
      refine (speaks6_any w7).mono ?_
      rintro e w8 ⟨rfl, hk⟩
      have hk8 := Hd.mk hk
      clear hk
      go_wp2_with fail
      exact hR.out _ _ ⟨rfl, hk7.out.then' hk8.out⟩
  | false =>
    refine (encode_no _ _ _ _ _ _ _ _ _ _ W hcur.out.nd hok).mono ?_
    rintro e w4 ⟨rfl, hk⟩
    have hk4 := Hd.mk (hcur.out.ext.then' hk)
    clear hcur hk hok
    go_wp2_with fail
    refine (decode_any A k c b w4 (HS.out.ext hk4.out) HN.out).mono ?_
    rintro e w5 ⟨m, x, B4, m4, d4, B5, m5, d5, B6, m6, d6, rfl, hm, hk, hd⟩
    have hk5 := Hd.mk (hk4.out.then' hk)
    have hm := Hd.mk hm
    clear hk hk4
    rcases hd with ⟨rfl, hp⟩ | ⟨rfl, rfl, -⟩
    · have hp := Hd.mk hp
      obtain ⟨level', lsn', right', high', keys', vals', kids'⟩ := m
      simp only [ndV]
      go_upto_region 7 with fail
      obtain ⟨W6, hW⟩ : ∃ W, w5.alloc (.cells #[.int .i64 level', .int .i64 lsn', .int .i64 right', .string high', .slice B4 m4 d4, .slice B5 m5 d5, .slice B6 m6 d6] 25) = W := ⟨_, rfl⟩
      have hcur' := Hd.mk (nd_alloc hm.out hW)
      rw [hW]
      clear hW
      obtain ⟨g', hg⟩ : ∃ g, w5.heap.size = g := ⟨_, rfl⟩
      rw [hg] at hcur' ⊢
      clear hg
      obtain ⟨he0, he1, he2, he3, he4, he5, he6⟩ := nd_facts hcur'.out.box
      go_wp2_with fail
      refine (encode_yes _ _ _ _ _ _ _ _ _ _ W6 hcur'.out.nd hp.out.1).mono ?_
      rintro e w7 ⟨A7, c7, rfl, ho, hk⟩
      rw [hp.out.2.2] at ho
      have hk7 := Hd.mk ((hk5.out.then' hcur'.out.ext).then' hk)
      have hcv1 := conv8 ho.sl
      have hcv2 := conv8 (HS.out.ext hk7.out)
      clear hk hcur' he0 he1 he2 he3 he4 he5 he6 ho
      obtain ⟨S, hS⟩ : ∃ S, bsStr b = S := ⟨_, rfl⟩
      rw [hS] at hcv1 hcv2
      clear hS
      go_wp2_with fail
      refine (speaks6_any w7).mono ?_
      rintro e w8 ⟨rfl, hk⟩
      have hk8 := Hd.mk hk
      clear hk
      go_wp2_with fail
      exact hR.out _ _ ⟨rfl, hk7.out.then' hk8.out⟩
    · simp only [ndV, zNd]
      go_upto_region 7 with fail
      obtain ⟨W6, hW⟩ : ∃ W, w5.alloc (.cells #[.int .i64 0, .int .i64 0, .int .i64 0, .string ⟨#[]⟩, .slice B4 m4 d4, .slice B5 m5 d5, .slice B6 m6 d6] 25) = W := ⟨_, rfl⟩
      have hcur' := Hd.mk (nd_alloc hm.out hW)
      rw [hW]
      clear hW
      obtain ⟨g', hg⟩ : ∃ g, w5.heap.size = g := ⟨_, rfl⟩
      rw [hg] at hcur' ⊢
      clear hg
      obtain ⟨he0, he1, he2, he3, he4, he5, he6⟩ := nd_facts hcur'.out.box
      go_wp2_with fail
      refine (node_same zNd _ _ _ _ _ _ _ _ _ _ _ _ _ _ _ _ _ _ W6 hcur'.out.nd (zNd_at W6)).mono ?_
      rintro e w7 ⟨rfl, hk⟩
      have hk7 := Hd.mk ((hk5.out.then' hcur'.out.ext).then' hk)
      clear hk hcur' he0 he1 he2 he3 he4 he5 he6
      go_wp2_with fail
      refine (speaks6_any w7).mono ?_
      rintro e w8 ⟨rfl, hk⟩
      have hk8 := Hd.mk hk
      clear hk
      go_wp2_with fail
      exact hR.out _ _ ⟨rfl, hk7.out.then' hk8.out⟩
end Go.Proofs.Ythpfkdaijiaalaa
