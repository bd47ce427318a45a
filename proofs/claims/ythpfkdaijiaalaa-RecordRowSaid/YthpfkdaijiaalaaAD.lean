/- The node's statements: encoded, decoded. -/
import Derived.Test.YthpfkdaijiaalaaAC
namespace Go.Proofs.Ythpfkdaijiaalaa
open Go.RowKit

theorem conv8 {w : World} {A : Option Addr} {n c : Nat} {xs : List UInt8} (h : SlAt enc8 w A n c xs) : (convert 31 9 (.slice A n c)).run Try.prog w = .ok (.string (bsStr xs)) w :=
  run_conv8 (P := Try.prog) (dst := 9) Try.underlying31 Try.underlying5 Try.underlying9 h

set_option maxRecDepth 100000 in
set_option maxHeartbeats 4000000 in
theorem lawEncodes (n : Nd) (A4 : Option Addr) (n4 c4 : Nat) (A5 : Option Addr) (n5 c5 : Nat) (A6 : Option Addr) (n6 c6 : Nat) (w : World) (h : NdAt w n A4 n4 c4 A5 n5 c5 A6 n6 c6) :
    Calls Try.prog 4 #[ndV n A4 n4 c4 A5 n5 c5 A6 n6 c6] w fun e w' => e = .returned (.bool true) ∧ Ext w w' := by
  refine hide_post fun R hR => ?_
  have H := Hd.mk h; clear h
  obtain ⟨level, lsn, right, high, keys, vals, kids⟩ := n
  simp only [ndV]
  go_enter Try.func4, Try.ntmps4
  go_wp2_with fail
  obtain ⟨W, hW⟩ : ∃ W, w.alloc (.cells #[.int .i64 level, .int .i64 lsn, .int .i64 right, .string high, .slice A4 n4 c4, .slice A5 n5 c5, .slice A6 n6 c6] 25) = W := ⟨_, rfl⟩
  have hcur := Hd.mk (Bx.first H.out hW)
  rw [hW]
  clear hW
  obtain ⟨g, hg⟩ : ∃ g, w.heap.size = g := ⟨_, rfl⟩
  rw [hg] at hcur ⊢
  clear hg
  cases hok : okB ⟨level, lsn, right, high, keys, vals, kids⟩ with
  | true =>
    have hok := Hd.mk hok
    refine (encode_any _ _ _ _ _ _ _ _ _ _ W hcur.out.nd).mono ?_
    rintro e w1 ⟨hk, hy, -⟩
    obtain ⟨A, c, rfl, ho⟩ := hy hok.out
    have hcur1 := Hd.mk (hcur.out.go hk)
    have ho := Hd.mk ho
    clear hcur hk hy
    obtain ⟨hc0, hc1, hc2, hc3, hc4, hc5, hc6⟩ := nd_facts hcur1.out.box
    go_wp2_with fail
    refine (refencode_any _ _ _ _ _ _ _ _ _ _ w1 hcur1.out.nd).mono ?_
    rintro e w2 ⟨hk, hy, -⟩
    obtain ⟨A', c', rfl, ho'⟩ := hy hok.out
    have hcur2 := Hd.mk (hcur1.out.go hk)
    have hcv1 := conv8 (ho.out.ext hk).sl
    have hcv2 := conv8 ho'.sl
    clear hcur1 hk hy hc0 hc1 hc2 hc3 hc4 hc5 hc6 ho ho'
    obtain ⟨S, hS⟩ : ∃ S, bsStr (encB ⟨level, lsn, right, high, keys, vals, kids⟩) = S := ⟨_, rfl⟩
    rw [hS] at hcv1 hcv2
    clear hS
    go_wp2_with fail
    refine (speaks6_any w2).mono ?_
    rintro e w3 ⟨rfl, hk⟩
    have hk := Hd.mk hk
    go_wp2_with fail
    exact hR.out _ _ ⟨rfl, hcur2.out.ext.then' hk.out⟩
  | false =>
    have hok := Hd.mk hok
    refine (encode_any _ _ _ _ _ _ _ _ _ _ W hcur.out.nd).mono ?_
    rintro e w1 ⟨hk, -, hy⟩
    obtain rfl := hy hok.out
    have hcur1 := Hd.mk (hcur.out.go hk)
    clear hcur hk hy
    obtain ⟨hc0, hc1, hc2, hc3, hc4, hc5, hc6⟩ := nd_facts hcur1.out.box
    go_wp2_with fail
    refine (refencode_any _ _ _ _ _ _ _ _ _ _ w1 hcur1.out.nd).mono ?_
    rintro e w2 ⟨hk, -, hy⟩
    obtain rfl := hy hok.out
    have hcur2 := Hd.mk (hcur1.out.go hk)
    have hcv1 := conv8 (SlAt.nil_ enc8 w2)
    clear hcur1 hk hy hc0 hc1 hc2 hc3 hc4 hc5 hc6
    obtain ⟨S, hS⟩ : ∃ S, bsStr [] = S := ⟨_, rfl⟩
    rw [hS] at hcv1
    clear hS
    go_wp2_with fail
    refine (speaks6_any w2).mono ?_
    rintro e w3 ⟨rfl, hk⟩
    have hk := Hd.mk hk
    go_wp2_with fail
    exact hR.out _ _ ⟨rfl, hcur2.out.ext.then' hk.out⟩

/-- What decoding left, boxed. -/
theorem nd_alloc {w1 : World} {m : Nd} {A4 : Option Addr} {n4 c4 : Nat} {A5 : Option Addr} {n5 c5 : Nat} {A6 : Option Addr} {n6 c6 : Nat} (h : NdAt w1 m A4 n4 c4 A5 n5 c5 A6 n6 c6) {W : World} (e : w1.alloc (.cells (ndC m A4 n4 c4 A5 n5 c5 A6 n6 c6) 25) = W) :
    Bx w1 W w1.heap.size m A4 n4 c4 A5 n5 c5 A6 n6 c6 := Bx.first h e

set_option maxRecDepth 100000 in
set_option maxHeartbeats 4000000 in
theorem lawDecodes (A : Option Addr) (n c : Nat) (b : List UInt8) (w : World) (hs : SlAt enc8 w A n c b) (hn : n ≤ 140737488355328) :
    Calls Try.prog 5 #[.slice A n c] w fun e w' => e = .returned (.bool true) ∧ Ext w w' := by
  refine hide_post fun R hR => ?_
  have HS := Hd.mk hs; clear hs
  have HN := Hd.mk hn; clear hn
  go_enter Try.func5, Try.ntmps5
  go_wp2_with fail
  refine (decode_any A n c b w HS.out HN.out).mono ?_
  rintro e w1 ⟨m, x, A4, n4, c4, A5, n5, c5, A6, n6, c6, rfl, hm, hk, hd⟩
  have hk1 := Hd.mk hk
  have hd := Hd.mk hd
  have hm := Hd.mk hm
  clear hk
  obtain ⟨level, lsn, right, high, keys, vals, kids⟩ := m
  simp only [ndV]
  go_upto_region 2 with fail
  obtain ⟨W, hW⟩ : ∃ W, w1.alloc (.cells #[.int .i64 level, .int .i64 lsn, .int .i64 right, .string high, .slice A4 n4 c4, .slice A5 n5 c5, .slice A6 n6 c6] 25) = W := ⟨_, rfl⟩
  have hcur := Hd.mk (nd_alloc hm.out hW)
  rw [hW]
  clear hW
  obtain ⟨g, hg⟩ : ∃ g, w1.heap.size = g := ⟨_, rfl⟩
  rw [hg] at hcur ⊢
  clear hg
  go_wp2_with fail
  refine (refdecode_any A n c b W (HS.out.ext (hk1.out.then' hcur.out.ext)) HN.out).mono ?_
  rintro e w2 ⟨m', x', B4, m4, d4, B5, m5, d5, B6, m6, d6, rfl, hm', hk, hd'⟩
  obtain ⟨rfl, rfl⟩ := hd.out.one hd'
  have hcur2 := Hd.mk (hcur.out.go hk)
  have hm' := Hd.mk hm'
  clear hk hcur hd'
  simp only [ndV]
  go_upto_region 3 with fail
  obtain ⟨W2, hW⟩ : ∃ W, w2.alloc (.cells #[.int .i64 level, .int .i64 lsn, .int .i64 right, .string high, .slice B4 m4 d4, .slice B5 m5 d5, .slice B6 m6 d6] 25) = W := ⟨_, rfl⟩
  have hcur' := Hd.mk (nd_alloc hm'.out hW)
  rw [hW]
  clear hW
  obtain ⟨g', hg⟩ : ∃ g, w2.heap.size = g := ⟨_, rfl⟩
  rw [hg] at hcur' ⊢
  clear hg
  have hcur3 := Hd.mk (hcur2.out.go hcur'.out.ext)
  clear hcur2
  obtain ⟨hc0, hc1, hc2, hc3, hc4, hc5, hc6⟩ := nd_facts hcur3.out.box
  obtain ⟨he0, he1, he2, he3, he4, he5, he6⟩ := nd_facts hcur'.out.box
  go_wp2_with fail
  refine (node_same _ _ _ _ _ _ _ _ _ _ _ _ _ _ _ _ _ _ _ W2 hcur3.out.nd hcur'.out.nd).mono ?_
  rintro e w4 ⟨rfl, hk⟩
  have hk4 := Hd.mk hk
  clear hk
  go_wp2_with fail
  refine (speaks6_any w4).mono ?_
  rintro e w5 ⟨rfl, hk⟩
  have hk5 := Hd.mk hk
  clear hk
  go_wp2_with fail
  exact hR.out _ _ ⟨rfl, ((hk1.out.then' hcur3.out.ext).then' hk4.out).then' hk5.out⟩
end Go.Proofs.Ythpfkdaijiaalaa
