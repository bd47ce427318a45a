/- A page of which a bit is turned is none. -/
import Derived.Test.YthpfkdaijiaalaaAE
namespace Go.Proofs.Ythpfkdaijiaalaa
open Go.RowKit

theorem stp_inj {s t : Nat} (hs : s < 4294967296) (ht : t < 4294967296) (h : stp s = stp t) : s = t := by
  have bit : ∀ a b : Nat, a < 4294967296 → b < 4294967296 → a / 2 ^^^ 3988292384 = b / 2 → False := by
    intro a b ha hb h
    have h1 : (a / 2).testBit 31 = false := Nat.testBit_lt_two_pow (by omega)
    have h2 : (b / 2).testBit 31 = false := Nat.testBit_lt_two_pow (by omega)
    have h3 : (3988292384 : Nat).testBit 31 = true := by decide
    have h4 := congrArg (fun x => Nat.testBit x 31) h
    simp only [Nat.testBit_xor, h1, h2, h3] at h4
    cases h4
  unfold stp at h
  split at h <;> split at h
  · have h5 : (s / 2 ^^^ 3988292384) ^^^ 3988292384 = (t / 2 ^^^ 3988292384) ^^^ 3988292384 := by rw [h]
    rw [Nat.xor_assoc, Nat.xor_self, Nat.xor_zero, Nat.xor_assoc, Nat.xor_self, Nat.xor_zero] at h5
    omega
  · exact absurd h (fun h => bit s t hs ht h)
  · exact absurd h.symm (fun h => bit t s ht hs h)
  · omega
theorem stpN_inj {s t : Nat} (hs : s < 4294967296) (ht : t < 4294967296) : ∀ k, stpN k s = stpN k t → s = t
  | 0, h => h
  | k + 1, h => stpN_inj hs ht k (stp_inj (stpN_lt hs k) (stpN_lt ht k) h)
theorem xor_cancel {a b c : Nat} (h : a ^^^ c = b ^^^ c) : a = b := by
  have := congrArg (· ^^^ c) h
  simpa [Nat.xor_assoc] using this
theorem crcStep_inj {s t : Nat} (hs : s < 4294967296) (ht : t < 4294967296) {x : UInt8} (h : crcStep s x = crcStep t x) : s = t :=
  xor_cancel (stpN_inj (xor_byte_lt hs x) (xor_byte_lt ht x) 8 h)
theorem crcStep_inj_x {s : Nat} (hs : s < 4294967296) {x y : UInt8} (h : crcStep s x = crcStep s y) : x = y := by
  have := stpN_inj (xor_byte_lt hs x) (xor_byte_lt hs y) 8 h
  rw [Nat.xor_comm s, Nat.xor_comm s] at this
  exact UInt8.toNat_inj.1 (xor_cancel this)
theorem fold_inj (bs : List UInt8) : ∀ s t, s < 4294967296 → t < 4294967296 → bs.foldl crcStep s = bs.foldl crcStep t → s = t := by
  induction bs with
  | nil => intro s t _ _ h; exact h
  | cons x xs ih => intro s t hs ht h; exact crcStep_inj hs ht (ih _ _ (crcStep_lt hs x) (crcStep_lt ht x) h)
theorem sum_set {xs : List UInt8} {i : Nat} {x v : UInt8} (hx : xs[i]? = some x) (hv : v ≠ x) : sumB (xs.set i v) ≠ sumB xs := by
  obtain ⟨hi, hxx⟩ := List.getElem?_eq_some_iff.1 hx
  have e1 : xs = xs.take i ++ x :: xs.drop (i + 1) := by rw [← hxx, List.getElem_cons_drop, List.take_append_drop]
  have e2 : xs.set i v = xs.take i ++ v :: xs.drop (i + 1) := by rw [List.set_eq_take_append_cons_drop, if_pos hi]
  intro h
  have h1 := crcAll_lt (xs.set i v)
  have h2 := crcAll_lt xs
  have h3 : crcAll (xs.set i v) = crcAll xs := by unfold sumB at h; omega
  rw [e2] at h3
  conv at h3 => rhs; rw [e1]
  unfold crcAll at h3
  simp only [List.foldl_append, List.foldl_cons] at h3
  have hs := foldl_lt (xs.take i) 4294967295 (by omega)
  have h4 := fold_inj _ _ _ (crcStep_lt hs v) (crcStep_lt hs x) h3
  exact hv (crcStep_inj_x hs h4)
theorem seal_set {xs : List UInt8} {i : Nat} {x v : UInt8} (hx : (sealB xs)[i]? = some x) (hv : v ≠ x) : ¬ openOk ((sealB xs).set i v) := by
  intro ho
  have hl := sealB_len xs
  obtain ⟨hi, _⟩ := List.getElem?_eq_some_iff.1 hx
  have h2 := ho.2
  simp only [List.length_set, hl, Nat.add_sub_cancel] at h2
  by_cases hlt : i < xs.length
  · have e : (sealB xs).set i v = xs.set i v ++ leB (sumB xs) 4 := by rw [sealB, List.set_append_left _ _ hlt]
    have hx' : xs[i]? = some x := by rw [sealB, List.getElem?_append_left hlt] at hx; exact hx
    rw [e] at h2
    have hd : (xs.set i v ++ leB (sumB xs) 4).drop xs.length = leB (sumB xs) 4 := by rw [List.drop_append_of_le_length (by simp), List.drop_of_length_le (by simp), List.nil_append]
    have ht : (xs.set i v ++ leB (sumB xs) 4).take xs.length = xs.set i v := by rw [List.take_append_of_le_length (by simp), List.take_of_length_le (by simp)]
    rw [hd, ht, leN_leB _ _ (sumB_lt xs)] at h2
    exact sum_set hx' hv h2.symm
  · have e : (sealB xs).set i v = xs ++ (leB (sumB xs) 4).set (i - xs.length) v := by rw [sealB, List.set_append_right _ _ (by omega)]
    have hx' : (leB (sumB xs) 4)[i - xs.length]? = some x := by rw [sealB, List.getElem?_append_right (by omega)] at hx; exact hx
    rw [e, List.drop_left, List.take_left] at h2
    have hb := leB_leN ((leB (sumB xs) 4).set (i - xs.length) v)
    rw [h2, List.length_set, leB_len] at hb
    have h3 : ((leB (sumB xs) 4).set (i - xs.length) v)[i - xs.length]? = some v := by
      rw [List.getElem?_set_self (by have := (List.getElem?_eq_some_iff.1 hx').1; exact this)]
    rw [← hb, hx'] at h3
    exact hv (Option.some.inj h3).symm
theorem page_turned {n : Nd} {i : Nat} {x v : UInt8} (hx : (encB n)[i]? = some x) (hv : v ≠ x) (m : Nd) : ¬ pageOf ((encB n).set i v) m := fun h => seal_set hx hv (pageOf_raw h).1

theorem xor_u8 (a b : Nat) (ha : a < 256) (hb : b < 256) : bits .xor .u8 (a : Int) (b : Int) = ((a ^^^ b : Nat) : Int) := by
  have hx : a ^^^ b < 2 ^ 8 := Nat.xor_lt_two_pow (by omega) (by omega)
  have o : ∀ c : Nat, c < 256 → (BitVec.ofInt 8 (c : Int)).toNat = c := fun c hc => by rw [BitVec.ofInt_natCast, BitVec.toNat_ofNat]; exact Nat.mod_eq_of_lt (by omega)
  show IntKind.u8.wrap ((BitVec.ofInt 8 (a : Int) ^^^ BitVec.ofInt 8 (b : Int)).toNat : Int) = _
  rw [BitVec.toNat_xor, o a ha, o b hb, IntKind.wrap_u8]
  omega
theorem bit_turn (x : UInt8) (k : Nat) (hk : k < 8) : ∃ v : UInt8, bits .xor .u8 (x.toNat : Int) (2 ^ k % 256) = (v.toNat : Int) ∧ v ≠ x := by
  have hb : 2 ^ k < 256 := Nat.lt_of_lt_of_le (Nat.pow_lt_pow_right (by omega) hk) (by decide)
  have hp : 0 < 2 ^ k := Nat.pow_pos (by omega)
  have e : ((2 : Int) ^ k % 256) = ((2 ^ k : Nat) : Int) := by
    have : ((2 : Int) ^ k) = ((2 ^ k : Nat) : Int) := by simp
    rw [this]; omega
  have hx := byte_lt x
  have hl : x.toNat ^^^ 2 ^ k < 256 := Nat.xor_lt_two_pow (n := 8) (by omega) (by omega)
  refine ⟨UInt8.ofNat (x.toNat ^^^ 2 ^ k), ?_, fun h => ?_⟩
  · rw [e, xor_u8 _ _ hx hb, UInt8.toNat_ofNat_of_lt' (show _ < 256 from hl)]
  · have h1 := congrArg UInt8.toNat h
    rw [UInt8.toNat_ofNat_of_lt' (show _ < 256 from hl)] at h1
    have h2 : x.toNat ^^^ (x.toNat ^^^ 2 ^ k) = x.toNat ^^^ x.toNat := by rw [h1]
    rw [← Nat.xor_assoc, Nat.xor_self, Nat.zero_xor] at h2
    omega
theorem flat8 (xs : List UInt8) : flat enc8 xs = xs.map u8v := by
  induction xs with
  | nil => rfl
  | cons x xs ih => simp only [flat, List.flatMap_cons, List.map_cons] at ih ⊢; rw [ih]; rfl
/-- A byte is stored into a row of one's own. -/
theorem sl_set {w : World} {gp n c j : Nat} {cur : Array Value} {xs : List UInt8} (hrow : w.heap[gp]? = some (.cells cur 5 (0, 0))) (hl : xs.length = n) (hnc : n ≤ c) (hcm : c ≤ 9223372036854775807) (ht : cur.toList.take n = flat enc8 xs) (v : UInt8) :
    SlAt enc8 (w.setCell ⟨gp, j, none⟩ (.int .u8 (v.toNat : Int))) (some ⟨gp, 0, none⟩) n c (xs.set j v) := by
  refine ⟨by simp [hl], hnc, hcm, (fun h => by cases h), fun _ => ⟨_, rfl, fun i u hi => ?_⟩⟩
  have hb := heap_setCell_same w gp j _ _ (.int .u8 (v.toNat : Int)) hrow
  rw [add_plain, cell_of_row _ gp _ _ 5 (0, 0) hb, Nat.zero_add]
  have e : ((cur.setIfInBounds j (.int .u8 (v.toNat : Int))).toList.take n) = flat enc8 (xs.set j v) := by
    rw [Array.toList_setIfInBounds, List.take_set, ht, flat8, flat8, List.map_set]; rfl
  rw [← e] at hi
  have hi2 := (List.getElem?_eq_some_iff.1 hi).1
  rw [List.length_take] at hi2
  rw [List.getElem?_take_of_lt (by omega), Array.getElem?_toList] at hi
  exact hi
theorem own_cell {w : World} {gp n j : Nat} {cur : Array Value} {xs : List UInt8} {x : UInt8} (hrow : w.heap[gp]? = some (.cells cur 5 (0, 0))) (ht : cur.toList.take n = flat enc8 xs) (hx : xs[j]? = some x) (hl : xs.length = n) : w.cell? ⟨gp, j, none⟩ = some (.int .u8 (x.toNat : Int)) := by
  rw [cell_of_row w gp j cur 5 (0, 0) hrow]
  have h2 := congrArg (fun l => l[j]?) ht
  have hj := (List.getElem?_eq_some_iff.1 hx).1
  simp only [flat8, List.getElem?_map, hx, Option.map_some] at h2
  rw [List.getElem?_take_of_lt (by omega)] at h2
  simpa [u8v] using h2

set_option maxRecDepth 100000 in
set_option maxHeartbeats 4000000 in
theorem lawTurned (n : Nd) (A4 : Option Addr) (n4 c4 : Nat) (A5 : Option Addr) (n5 c5 : Nat) (A6 : Option Addr) (n6 c6 : Nat) (at_ : Int) (w : World) (h : NdAt w n A4 n4 c4 A5 n5 c5 A6 n6 c6) (hat : -9223372036854775808 ≤ at_ ∧ at_ ≤ 9223372036854775807) :
    Calls Try.prog 7 #[ndV n A4 n4 c4 A5 n5 c5 A6 n6 c6, .int .i64 at_] w fun e w' => e = .returned (.bool true) ∧ Ext w w' := by
  refine hide_post fun R hR => ?_
  have H := Hd.mk h; clear h
  obtain ⟨level, lsn, right, high, keys, vals, kids⟩ := n
  simp only [ndV]
  go_enter Try.func7, Try.ntmps7
  go_wp2_with fail
  obtain ⟨W, hW⟩ : ∃ W, w.alloc (.cells #[.int .i64 level, .int .i64 lsn, .int .i64 right, .string high, .slice A4 n4 c4, .slice A5 n5 c5, .slice A6 n6 c6] 25) = W := ⟨_, rfl⟩
  have hcur := Hd.mk (Bx.first H.out hW)
  rw [hW]
  clear hW
  obtain ⟨g, hg⟩ : ∃ g, w.heap.size = g := ⟨_, rfl⟩
  rw [hg] at hcur ⊢
  clear hg
  cases hok : okB ⟨level, lsn, right, high, keys, vals, kids⟩ with
  | false =>
    refine (encode_no _ _ _ _ _ _ _ _ _ _ W hcur.out.nd hok).mono ?_
    rintro e w1 ⟨rfl, hk⟩
    have hk1 := Hd.mk (hcur.out.ext.then' hk)
    clear hcur hk hok
    go_wp2_with fail
    refine (speaks6_any w1).mono ?_
    rintro e w2 ⟨rfl, hk⟩
    have hk2 := Hd.mk hk
    clear hk
    go_wp2_with fail
    exact hR.out _ _ ⟨rfl, hk1.out.then' hk2.out⟩
  | true =>
    refine (encode_yes _ _ _ _ _ _ _ _ _ _ W hcur.out.nd hok).mono ?_
    rintro e w1 ⟨A, c, rfl, ho, hk⟩
    have hk1 := Hd.mk (hcur.out.ext.then' hk)
    have hsz : Hd (w.heap.size ≤ W.heap.size) := ⟨hcur.out.ext.size⟩
    clear hcur hk
    obtain ⟨gp, cur, hA, hgp, hrow, hnc, hcm, hcs, htake⟩ := ho.row.resolve_left (by omega)
    subst hA
    have hgp := Hd.mk hgp
    have hrow := Hd.mk hrow
    have htake := Hd.mk htake
    have hcs := Hd.mk hcs
    have hlen := Hd.mk ho.len
    clear ho
    have h1 : at_ < 0 ∨ (0 ≤ at_ ∧ at_ < 2048) ∨ 2048 ≤ at_ := by omega
    rcases h1 with h1 | h1 | h1
    · have h20 : decide (at_ < 0) = true := by simpa using h1
      obtain ⟨x, hx⟩ : ∃ x, (encB ⟨level, lsn, right, high, keys, vals, kids⟩)[0]? = some x := ⟨_, List.getElem?_eq_getElem (by rw [hlen.out]; omega)⟩
      have hcx := own_cell hrow.out htake.out hx hlen.out
      have hfz : w1.frozen? ⟨gp, 0, none⟩ = false := by simp [World.frozen?, hrow.out]
      obtain ⟨v, hval, hne⟩ := bit_turn x 0 (by omega)
      have hval : bits BinOp.xor IntKind.u8 (x.toNat : Int) 1 = (v.toNat : Int) := hval
      have hno : Hd (∀ m, ¬ pageOf ((encB ⟨level, lsn, right, high, keys, vals, kids⟩).set 0 v) m) := ⟨page_turned hx hne⟩
      have hsl := Hd.mk (sl_set (j := 0) hrow.out hlen.out hnc (by simp only [maxLen] at hcm; omega) htake.out v)
      have hk2 : Hd (Ext w (w1.setCell ⟨gp, 0, none⟩ (.int .u8 (v.toNat : Int)))) := ⟨hk1.out.setCell (p := ⟨gp, 0, none⟩) (fun h => by have := hgp.out; have := hsz.out; simp only at h; omega) _⟩
      clear hne hx
      go_upto_region 9 with fail
      obtain ⟨w2, hw2⟩ : ∃ w2, w1.setCell ⟨gp, 0, none⟩ (.int .u8 (v.toNat : Int)) = w2 := ⟨_, rfl⟩
      rw [hw2] at hsl hk2 ⊢
      clear hw2 hcx hfz
      go_wp2_with fail
      refine (decode_no (some ⟨gp, 0, none⟩) 256 c _ w2 hsl.out (by omega) hno.out).mono ?_
      rintro e w5 ⟨B4, m4, d4, B5, m5, d5, B6, m6, d6, rfl, hm, hk⟩
      have hk5 := Hd.mk (hk2.out.then' hk)
      have hm := Hd.mk hm
      clear hk hsl
      simp only [ndV, zNd]
      go_upto_region 10 with fail
      obtain ⟨W6, hW⟩ : ∃ W, w5.alloc (.cells #[.int .i64 0, .int .i64 0, .int .i64 0, .string ⟨#[]⟩, .slice B4 m4 d4, .slice B5 m5 d5, .slice B6 m6 d6] 25) = W := ⟨_, rfl⟩
      have hcur' := Hd.mk (nd_alloc hm.out hW)
      rw [hW]
      clear hW
      obtain ⟨g', hg⟩ : ∃ g, w5.heap.size = g := ⟨_, rfl⟩
      rw [hg] at hcur' ⊢
      clear hg
      obtain ⟨he0, he1, he2, he3, he4, he5, he6⟩ := nd_facts hcur'.out.box
      go_wp2_with fail
      refine (node_same zNd _ _ _ _ _ _ _ _ _ _ _ _ _ _ _ _ _ _ W6 hcur'.out.nd (zNd_at W6)).mono ?_
      rintro e w7 ⟨rfl, hk⟩
      have hk7 := Hd.mk ((hk5.out.then' hcur'.out.ext).then' hk)
      clear hk hcur' he0 he1 he2 he3 he4 he5 he6
      go_wp2_with fail
      refine (speaks6_any w7).mono ?_
      rintro e w8 ⟨rfl, hk⟩
      have hk8 := Hd.mk hk
      clear hk
      go_wp2_with fail
      exact hR.out _ _ ⟨rfl, hk7.out.then' hk8.out⟩
    · obtain ⟨j, hj⟩ : ∃ j : Nat, at_ / 8 = (j : Int) := ⟨(at_ / 8).toNat, by omega⟩
      obtain ⟨k, hk⟩ : ∃ k : Nat, at_ % 8 = (k : Int) := ⟨(at_ % 8).toNat, by omega⟩
      have hjb : (j : Int) < 256 := by omega
      have hkb : (k : Int) < 8 := by omega
      have h10 : 0 ≤ at_ := h1.1
      have h11 : at_ < 2048 := h1.2
      clear h1
      obtain ⟨x, hx⟩ : ∃ x, (encB ⟨level, lsn, right, high, keys, vals, kids⟩)[j]? = some x := ⟨_, List.getElem?_eq_getElem (by rw [hlen.out]; omega)⟩
      have hcx := own_cell hrow.out htake.out hx hlen.out
      have hfz : w1.frozen? ⟨gp, j, none⟩ = false := by simp [World.frozen?, hrow.out]
      obtain ⟨v, hval, hne⟩ := bit_turn x k (by omega)
      have hno : Hd (∀ m, ¬ pageOf ((encB ⟨level, lsn, right, high, keys, vals, kids⟩).set j v) m) := ⟨page_turned hx hne⟩
      have hsl := Hd.mk (sl_set (j := j) hrow.out hlen.out hnc (by simp only [maxLen] at hcm; omega) htake.out v)
      have hk2 : Hd (Ext w (w1.setCell ⟨gp, j, none⟩ (.int .u8 (v.toNat : Int)))) := ⟨hk1.out.setCell (p := ⟨gp, j, none⟩) (fun h => by have := hgp.out; have := hsz.out; simp only at h; omega) _⟩
      clear hne hx
      go_upto_region 9 with fail
      obtain ⟨w2, hw2⟩ : ∃ w2, w1.setCell ⟨gp, j, none⟩ (.int .u8 (v.toNat : Int)) = w2 := ⟨_, rfl⟩
      rw [hw2] at hsl hk2 ⊢
      clear hw2 hcx hfz
      go_wp2_with fail
      refine (decode_no (some ⟨gp, 0, none⟩) 256 c _ w2 hsl.out (by omega) hno.out).mono ?_
      rintro e w5 ⟨B4, m4, d4, B5, m5, d5, B6, m6, d6, rfl, hm, hk⟩
      have hk5 := Hd.mk (hk2.out.then' hk)
      have hm := Hd.mk hm
      clear hk hsl
      simp only [ndV, zNd]
      go_upto_region 10 with fail
      obtain ⟨W6, hW⟩ : ∃ W, w5.alloc (.cells #[.int .i64 0, .int .i64 0, .int .i64 0, .string ⟨#[]⟩, .slice B4 m4 d4, .slice B5 m5 d5, .slice B6 m6 d6] 25) = W := ⟨_, rfl⟩
      have hcur' := Hd.mk (nd_alloc hm.out hW)
      rw [hW]
      clear hW
      obtain ⟨g', hg⟩ : ∃ g, w5.heap.size = g := ⟨_, rfl⟩
      rw [hg] at hcur' ⊢
      clear hg
      obtain ⟨he0, he1, he2, he3, he4, he5, he6⟩ := nd_facts hcur'.out.box
      go_wp2_with fail
      refine (node_same zNd _ _ _ _ _ _ _ _ _ _ _ _ _ _ _ _ _ _ W6 hcur'.out.nd (zNd_at W6)).mono ?_
      rintro e w7 ⟨rfl, hk⟩
      have hk7 := Hd.mk ((hk5.out.then' hcur'.out.ext).then' hk)
      clear hk hcur' he0 he1 he2 he3 he4 he5 he6
      go_wp2_with fail
      refine (speaks6_any w7).mono ?_
      rintro e w8 ⟨rfl, hk⟩
      have hk8 := Hd.mk hk
      clear hk
      go_wp2_with fail
      exact hR.out _ _ ⟨rfl, hk7.out.then' hk8.out⟩
    · have h20 : decide (at_ < 0) = false := by simp; omega
      have h21 : decide (2048 ≤ at_) = true := by simpa using h1
      obtain ⟨x, hx⟩ : ∃ x, (encB ⟨level, lsn, right, high, keys, vals, kids⟩)[0]? = some x := ⟨_, List.getElem?_eq_getElem (by rw [hlen.out]; omega)⟩
      have hcx := own_cell hrow.out htake.out hx hlen.out
      have hfz : w1.frozen? ⟨gp, 0, none⟩ = false := by simp [World.frozen?, hrow.out]
      obtain ⟨v, hval, hne⟩ := bit_turn x 0 (by omega)
      have hval : bits BinOp.xor IntKind.u8 (x.toNat : Int) 1 = (v.toNat : Int) := hval
      have hno : Hd (∀ m, ¬ pageOf ((encB ⟨level, lsn, right, high, keys, vals, kids⟩).set 0 v) m) := ⟨page_turned hx hne⟩
      have hsl := Hd.mk (sl_set (j := 0) hrow.out hlen.out hnc (by simp only [maxLen] at hcm; omega) htake.out v)
      have hk2 : Hd (Ext w (w1.setCell ⟨gp, 0, none⟩ (.int .u8 (v.toNat : Int)))) := ⟨hk1.out.setCell (p := ⟨gp, 0, none⟩) (fun h => by have := hgp.out; have := hsz.out; simp only at h; omega) _⟩
      clear hne hx
      go_upto_region 9 with fail
      obtain ⟨w2, hw2⟩ : ∃ w2, w1.setCell ⟨gp, 0, none⟩ (.int .u8 (v.toNat : Int)) = w2 := ⟨_, rfl⟩
      rw [hw2] at hsl hk2 ⊢
      clear hw2 hcx hfz
      go_wp2_with fail
      refine (decode_no (some ⟨gp, 0, none⟩) 256 c _ w2 hsl.out (by omega) hno.out).mono ?_
      rintro e w5 ⟨B4, m4, d4, B5, m5, d5, B6, m6, d6, rfl, hm, hk⟩
      have hk5 := Hd.mk (hk2.out.then' hk)
      have hm := Hd.mk hm
      clear hk hsl
      simp only [ndV, zNd]
      go_upto_region 10 with fail
      obtain ⟨W6, hW⟩ : ∃ W, w5.alloc (.cells #[.int .i64 0, .int .i64 0, .int .i64 0, .string ⟨#[]⟩, .slice B4 m4 d4, .slice B5 m5 d5, .slice B6 m6 d6] 25) = W := ⟨_, rfl⟩
      have hcur' := Hd.mk (nd_alloc hm.out hW)
      rw [hW]
      clear hW
      obtain ⟨g', hg⟩ : ∃ g, w5.heap.size = g := ⟨_, rfl⟩
      rw [hg] at hcur' ⊢
      clear hg
      obtain ⟨he0, he1, he2, he3, he4, he5, he6⟩ := nd_facts hcur'.out.box
      go_wp2_with fail
      refine (node_same zNd _ _ _ _ _ _ _ _ _ _ _ _ _ _ _ _ _ _ W6 hcur'.out.nd (zNd_at W6)).mono ?_
      rintro e w7 ⟨rfl, hk⟩
      have hk7 := Hd.mk ((hk5.out.then' hcur'.out.ext).then' hk)
      clear hk hcur' he0 he1 he2 he3 he4 he5 he6
      go_wp2_with fail
      refine (speaks6_any w7).mono ?_
      rintro e w8 ⟨rfl, hk⟩
      have hk8 := Hd.mk hk
      clear hk
      go_wp2_with fail
      exact hR.out _ _ ⟨rfl, hk7.out.then' hk8.out⟩
end Go.Proofs.Ythpfkdaijiaalaa
