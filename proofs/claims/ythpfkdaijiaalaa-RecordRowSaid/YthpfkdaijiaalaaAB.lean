/- Equal nodes; what the node's statements ask first. -/
import Derived.Test.YthpfkdaijiaalaaAA
namespace Go.Proofs.Ythpfkdaijiaalaa
open Go.RowKit

set_option maxRecDepth 100000 in
set_option maxHeartbeats 4000000 in
theorem node_same (n : Nd) (A4 : Option Addr) (n4 c4 : Nat) (A5 : Option Addr) (n5 c5 : Nat) (A6 : Option Addr) (n6 c6 : Nat) (B4 : Option Addr) (m4 d4 : Nat) (B5 : Option Addr) (m5 d5 : Nat) (B6 : Option Addr) (m6 d6 : Nat) (w : World)
    (h : NdAt w n A4 n4 c4 A5 n5 c5 A6 n6 c6) (h' : NdAt w n B4 m4 d4 B5 m5 d5 B6 m6 d6) :
    Calls Try.prog 34 #[ndV n A4 n4 c4 A5 n5 c5 A6 n6 c6, ndV n B4 m4 d4 B5 m5 d5 B6 m6 d6] w fun e w' => e = .returned (.bool true) ∧ Ext w w' := by
  refine hide_post fun R hR => ?_
  have H := Hd.mk h; clear h
  have H' := Hd.mk h'; clear h'
  obtain ⟨level, lsn, right, high, keys, vals, kids⟩ := n
  simp only [ndV]
  go_enter Try.func34, Try.ntmps34
  go_upto_region 1 with fail
  obtain ⟨W, hW, hk, hc0, hc1, hc2, hc3, hc4, hc5, hc6, hb⟩ := nd_box w level lsn right high A4 n4 c4 A5 n5 c5 A6 n6 c6
  obtain ⟨X, hX, hx, hd0, hd1, hd2, hd3, hd4, hd5, hd6, hd⟩ := nd_box W level lsn right high B4 m4 d4 B5 m5 d5 B6 m6 d6
  have hsz : W.heap.size = w.heap.size + 1 := by rw [← hW]; simp
  rw [hsz] at hd
  rw [hW, hX]
  have hb2 := hx.out.blk hb id
  clear hc0 hc1 hc2 hc3 hc4 hc5 hc6 hW hX hb hd0 hd1 hd2 hd3 hd4 hd5 hd6 hsz
  obtain ⟨hd0, hd1, hd2, hd3, hd4, hd5, hd6⟩ := nd_facts hd
  obtain ⟨hc0, hc1, hc2, hc3, hc4, hc5, hc6⟩ := nd_facts hb2
  have hK := Hd.mk (hk.out.then' hx.out)
  go_wp2_with fail
  refine (texts_any A4 n4 c4 keys B4 m4 d4 keys X (H.out.ext hK.out).keys (H'.out.ext hK.out).keys (by have := H.out.b4; omega)).mono ?_
  rintro e w1 ⟨rfl, hk1⟩
  rw [decide_eq_true rfl]
  have hK1 := Hd.mk (hK.out.then' hk1)
  have hb1 := hk1.blk hb2 id
  have hd1' := hk1.blk hd id
  clear hc0 hc1 hc2 hc3 hc4 hc5 hc6 hd0 hd1 hd2 hd3 hd4 hd5 hd6 hk1
  obtain ⟨hc0, hc1, hc2, hc3, hc4, hc5, hc6⟩ := nd_facts hb1
  obtain ⟨hd0, hd1, hd2, hd3, hd4, hd5, hd6⟩ := nd_facts hd1'
  go_wp2_with fail
  refine (texts_any A5 n5 c5 vals B5 m5 d5 vals w1 (H.out.ext hK1.out).vals (H'.out.ext hK1.out).vals (by have := H.out.b5; omega)).mono ?_
  rintro e w2 ⟨rfl, hk2⟩
  rw [decide_eq_true rfl]
  have hK2 := Hd.mk (hK1.out.then' hk2)
  have hb2 := hk2.blk hb1 id
  have hd2' := hk2.blk hd1' id
  clear hc0 hc1 hc2 hc3 hc4 hc5 hc6 hd0 hd1 hd2 hd3 hd4 hd5 hd6 hk2
  obtain ⟨hc0, hc1, hc2, hc3, hc4, hc5, hc6⟩ := nd_facts hb2
  obtain ⟨hd0, hd1, hd2, hd3, hd4, hd5, hd6⟩ := nd_facts hd2'
  go_wp2_with fail
  refine (ints_any A6 n6 c6 kids B6 m6 d6 kids w2 (H.out.ext hK2.out).kids (H'.out.ext hK2.out).kids (by have := H.out.b6; omega)).mono ?_
  rintro e w3 ⟨rfl, hk3⟩
  rw [decide_eq_true rfl]
  have hK3 := Hd.mk (hK2.out.then' hk3)
  go_wp2_with fail
  exact hR.out _ _ ⟨rfl, hK3.out⟩

def spN : Nd := ⟨0, 7, 2, ⟨#[98]⟩, [⟨#[97]⟩], [⟨#[120]⟩], []⟩
def sp1 : Nd := ⟨1, 0, 0, ⟨#[]⟩, [], [], []⟩
theorem sp_ok : okB spN = true := by kernel_rfl
theorem sp_no : okB sp1 = false := by kernel_rfl
theorem sp_size : wrap64 (sizeT spN) = 28 := by kernel_rfl
theorem one_S (w : World) (s : ByteArray) : SlAt encS (w.alloc (.cells #[.string s] 9)) (some ⟨w.heap.size, 0, none⟩) 1 1 [s] := by
  refine ⟨rfl, Nat.le_refl _, by omega, (fun h => by cases h), fun _ => ⟨_, rfl, fun j u hj => ?_⟩⟩
  rw [add_plain, cell_of_row _ w.heap.size _ _ 9 (0, 0) (heap_alloc_new w _)]
  simpa [flat, encS] using hj
theorem sp_at (w : World) {W : World} (hW : (w.alloc (.cells #[.string ⟨#[97]⟩] 9)).alloc (.cells #[.string ⟨#[120]⟩] 9) = W) : NdAt W spN (some ⟨w.heap.size, 0, none⟩) 1 1 (some ⟨w.heap.size + 1, 0, none⟩) 1 1 none 0 0 ∧ Ext w W ∧ W.heap.size = w.heap.size + 1 + 1 := by
  have k1 := (ext_refl w).alloc (.cells #[.string ⟨#[97]⟩] 9)
  have k2 := (ext_refl (w.alloc (.cells #[.string ⟨#[97]⟩] 9))).alloc (.cells #[.string ⟨#[120]⟩] 9)
  have h1 := (one_S w ⟨#[97]⟩).ext k2
  have h2 := one_S (w.alloc (.cells #[.string ⟨#[97]⟩] 9)) ⟨#[120]⟩
  have e1 : (w.alloc (.cells #[.string ⟨#[97]⟩] 9)).heap.size = w.heap.size + 1 := by simp
  rw [e1] at h2
  rw [hW] at h1 h2 k2
  refine ⟨⟨h1, h2, SlAt.nil_ _ _, by omega, by omega, by omega, by show (1 : Nat) ≤ _; omega, fun k hk => ?_, fun k hk => ?_⟩, k1.ext k2, by rw [← hW]; simp⟩
  · simp [spN] at hk; subst hk; show (1 : Nat) ≤ _; omega
  · simp [spN] at hk; subst hk; show (1 : Nat) ≤ _; omega
theorem sp1_at (w : World) : NdAt w sp1 none 0 0 none 0 0 none 0 0 :=
  ⟨SlAt.nil_ _ _, SlAt.nil_ _ _, SlAt.nil_ _ _, by omega, by omega, by omega, by show (0 : Nat) ≤ _; omega, fun k hk => by simp [sp1] at hk, fun k hk => by simp [sp1] at hk⟩

theorem encode_yes (n : Nd) (A4 : Option Addr) (n4 c4 : Nat) (A5 : Option Addr) (n5 c5 : Nat) (A6 : Option Addr) (n6 c6 : Nat) (w : World) (h : NdAt w n A4 n4 c4 A5 n5 c5 A6 n6 c6) (hok : okB n = true) :
    Calls Try.prog 30 #[ndV n A4 n4 c4 A5 n5 c5 A6 n6 c6] w fun e w' => ∃ A c, e = .returned (.tuple #[.slice A 256 c, .int .i64 0]) ∧ Own enc8 1 5 w.heap.size w' A 256 c (encB n) ∧ Ext w w' := by
  refine (encode_any n A4 n4 c4 A5 n5 c5 A6 n6 c6 w h).mono ?_
  rintro e w' ⟨hk, hy, -⟩
  obtain ⟨A, c, he, ho⟩ := hy hok
  exact ⟨A, c, he, ho, hk⟩
theorem encode_no (n : Nd) (A4 : Option Addr) (n4 c4 : Nat) (A5 : Option Addr) (n5 c5 : Nat) (A6 : Option Addr) (n6 c6 : Nat) (w : World) (h : NdAt w n A4 n4 c4 A5 n5 c5 A6 n6 c6) (hok : okB n = false) :
    Calls Try.prog 30 #[ndV n A4 n4 c4 A5 n5 c5 A6 n6 c6] w fun e w' => e = .returned (.tuple #[.slice none 0 0, .int .i64 60]) ∧ Ext w w' := by
  refine (encode_any n A4 n4 c4 A5 n5 c5 A6 n6 c6 w h).mono ?_
  rintro e w' ⟨hk, -, hy⟩
  exact ⟨hy hok, hk⟩
theorem decode_yes (A : Option Addr) (n c : Nat) (b : List UInt8) (w : World) (hs : SlAt enc8 w A n c b) (hn : n ≤ 140737488355328) (m : Nd) (hm : pageOf b m) :
    Calls Try.prog 32 #[.slice A n c] w fun e w' => ∃ A4 n4 c4 A5 n5 c5 A6 n6 c6, e = .returned (.tuple #[ndV m A4 n4 c4 A5 n5 c5 A6 n6 c6, .int .i64 0]) ∧ NdAt w' m A4 n4 c4 A5 n5 c5 A6 n6 c6 ∧ Ext w w' := by
  refine (decode_any A n c b w hs hn).mono ?_
  rintro e w' ⟨m', x, A4, n4, c4, A5, n5, c5, A6, n6, c6, he, h1, h2, h3⟩
  obtain ⟨rfl, rfl⟩ := h3.one (.yes hm)
  exact ⟨A4, n4, c4, A5, n5, c5, A6, n6, c6, he, h1, h2⟩
theorem decode_no (A : Option Addr) (n c : Nat) (b : List UInt8) (w : World) (hs : SlAt enc8 w A n c b) (hn : n ≤ 140737488355328) (hm : ∀ m, ¬ pageOf b m) :
    Calls Try.prog 32 #[.slice A n c] w fun e w' => ∃ A4 n4 c4 A5 n5 c5 A6 n6 c6, e = .returned (.tuple #[ndV zNd A4 n4 c4 A5 n5 c5 A6 n6 c6, .int .i64 60]) ∧ NdAt w' zNd A4 n4 c4 A5 n5 c5 A6 n6 c6 ∧ Ext w w' := by
  refine (decode_any A n c b w hs hn).mono ?_
  rintro e w' ⟨m', x, A4, n4, c4, A5, n5, c5, A6, n6, c6, he, h1, h2, h3⟩
  obtain ⟨rfl, rfl⟩ := h3.one (.no hm)
  exact ⟨A4, n4, c4, A5, n5, c5, A6, n6, c6, he, h1, h2⟩
theorem sp_page : pageOf (encB spN) spN := ⟨sp_ok, by show (1 : Nat) ≤ _; omega, rfl⟩
theorem okE_sp1 : okE sp1 = 60 := okE_not sp_no

set_option maxRecDepth 100000 in
set_option maxHeartbeats 4000000 in
theorem speaks6_any (w : World) : Calls Try.prog 29 #[] w fun e w' => e = .returned (.bool true) ∧ Ext w w' := by
  refine hide_post fun R hR => ?_
  go_enter Try.func29, Try.ntmps29
  go_wp2_with fail
  obtain ⟨W0, hW0⟩ : ∃ W, (w.alloc (.cells #[.string ⟨#[97]⟩] 9)).alloc (.cells #[.string ⟨#[120]⟩] 9) = W := ⟨_, rfl⟩
  obtain ⟨hA0, hK0, hsz⟩ := sp_at w hW0
  rw [hW0]
  obtain ⟨W, hW, hk, hc0, hc1, hc2, hc3, hc4, hc5, hc6, hb⟩ := nd_box W0 0 7 2 ⟨#[98]⟩ (some ⟨w.heap.size, 0, none⟩) 1 1 (some ⟨w.heap.size + 1, 0, none⟩) 1 1 none 0 0
  rw [hsz] at hb
  rw [hW]
  clear hW hW0 hc0 hc1 hc2 hc3 hc4 hc5 hc6 hsz
  have hN := Hd.mk (hA0.ext hk.out)
  have hK := Hd.mk (hK0.then' hk.out)
  clear hA0 hK0 hk
  refine (encode_yes spN _ _ _ _ _ _ _ _ _ W hN.out sp_ok).mono ?_
  rintro e w1 ⟨A, c, rfl, ho, hk1⟩
  have ho := Hd.mk ho
  have hb1 := hk1.blk hb id
  have hN1 := Hd.mk (hN.out.ext hk1)
  have hK1 := Hd.mk (hK.out.then' hk1)
  clear hb hk1 hN hK
  obtain ⟨hc0, hc1, hc2, hc3, hc4, hc5, hc6⟩ := nd_facts hb1
  go_wp2_with fail
  refine (decode_yes A 256 c (encB spN) w1 ho.out.sl (by omega) spN sp_page).mono ?_
  rintro e w2 ⟨A4, n4, c4, A5, n5, c5, A6, n6, c6, rfl, hM, hk2⟩
  have hb2 := hk2.blk hb1 id
  have hN2 := Hd.mk (hN1.out.ext hk2)
  have hK2 := Hd.mk (hK1.out.then' hk2)
  have hM := Hd.mk hM
  clear hc0 hc1 hc2 hc3 hc4 hc5 hc6 hb1 hk2 hN1 hK1
  simp only [ndV, spN]
  go_upto_region 4 with fail
  obtain ⟨W3, hW3, hk3, hd0, hd1, hd2, hd3, hd4, hd5, hd6, hd⟩ := nd_box w2 0 7 2 ⟨#[98]⟩ A4 n4 c4 A5 n5 c5 A6 n6 c6
  rw [hW3]
  clear hW3
  have hb3 := hk3.out.blk hb2 id
  have hN3 := Hd.mk (hN2.out.ext hk3.out)
  have hM3 := Hd.mk (hM.out.ext hk3.out)
  have hK3 := Hd.mk (hK2.out.then' hk3.out)
  clear hb2 hN2 hM hK2 hk3 hd
  obtain ⟨hc0, hc1, hc2, hc3, hc4, hc5, hc6⟩ := nd_facts hb3
  go_wp2_with fail
  refine (node_same spN _ _ _ _ _ _ _ _ _ _ _ _ _ _ _ _ _ _ W3 hM3.out hN3.out).mono ?_
  rintro e w4 ⟨rfl, hk4⟩
  have hb4 := hk4.blk hb3 id
  have hN4 := Hd.mk (hN3.out.ext hk4)
  have hK4 := Hd.mk (hK3.out.then' hk4)
  clear hb3 hN3 hM3 hK3 hk4 hc0 hc1 hc2 hc3 hc4 hc5 hc6 hd0 hd1 hd2 hd3 hd4 hd5 hd6
  obtain ⟨hc0, hc1, hc2, hc3, hc4, hc5, hc6⟩ := nd_facts hb4
  go_wp2_with fail
  refine (size_any spN _ _ _ _ _ _ _ _ _ w4 hN4.out).mono ?_
  rintro e w5 ⟨rfl, hk5⟩
  rw [sp_size]
  have hK5 := Hd.mk (hK4.out.then' hk5)
  go_wp2_with fail
  refine (check_any sp1 _ _ _ _ _ _ _ _ _ w5 (sp1_at w5)).mono ?_
  rintro e w6 ⟨rfl, hk6⟩
  rw [okE_sp1]
  have hK6 := Hd.mk (hK5.out.then' hk6)
  go_wp2_with fail
  exact hR.out _ _ ⟨rfl, hK6.out⟩
end Go.Proofs.Ythpfkdaijiaalaa
