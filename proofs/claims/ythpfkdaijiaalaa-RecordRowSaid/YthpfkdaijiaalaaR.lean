/- Whether a node is right, by definition. -/
import Derived.Test.YthpfkdaijiaalaaQ
namespace Go.Proofs.Ythpfkdaijiaalaa
open Go.RowKit

theorem cmp_ge (a b : ByteArray) : decide (0 ≤ cmpB a b) = !ltB a b := by
  unfold cmpB
  cases ltB a b with
  | true => rfl
  | false => cases ltB b a <;> rfl
theorem okB_key {n : Nd} {i : Nat} {k : ByteArray} (hg : n.keys[i]? = some k) (h : keyB n.high n.keys i k = false) : okB n = false := by
  have := all_range_not (n := n.keys.length) (p := fun i => keyB n.high n.keys i (n.keys[i]?.getD n.high)) (i := i) (List.getElem?_eq_some_iff.1 hg).1 (by simpa only [hg, Option.getD_some] using h)
  simp only [okB, keysB, this, Bool.and_false]
theorem inB_low {n m : Int} (h : n < 0) : inB n m = false := by unfold inB; rw [decide_eq_false (by omega)]; rfl
theorem inB_high {n m : Int} (h : m < n) : inB n m = false := by unfold inB; rw [decide_eq_false (p := n ≤ m) (by omega)]; simp
theorem inB_yes {n m : Int} (h : ¬ n < 0) (h2 : ¬ m < n) : inB n m = true := by unfold inB; rw [decide_eq_true (by omega), decide_eq_true (by omega)]; rfl

set_option maxRecDepth 100000 in
set_option maxHeartbeats 20000000 in
theorem right_any (n : Nd) (A4 : Option Addr) (n4 c4 : Nat) (A5 : Option Addr) (n5 c5 : Nat) (A6 : Option Addr) (n6 c6 : Nat) (w : World) (h : NdAt w n A4 n4 c4 A5 n5 c5 A6 n6 c6) :
    Calls Try.prog 80 #[ndV n A4 n4 c4 A5 n5 c5 A6 n6 c6] w fun e w' => e = .returned (.bool (okB n)) ∧ Ext w w' := by
  refine hide_post fun R hR => ?_
  have H := Hd.mk h; clear h
  have l4 := Hd.mk H.out.keys.len
  have l5 := Hd.mk H.out.vals.len
  have l6 := Hd.mk H.out.kids.len
  have bk := Hd.mk H.out.bk
  obtain ⟨level, lsn, right, high, keys, vals, kids⟩ := n
  obtain ⟨x, hx⟩ : ∃ x, okB ⟨level, lsn, right, high, keys, vals, kids⟩ = x := ⟨_, rfl⟩
  obtain ⟨z, hz⟩ : ∃ z, wrap64 (sizeT ⟨level, lsn, right, high, keys, vals, kids⟩) = z := ⟨_, rfl⟩
  rw [hx] at hR
  have hx := Hd.mk hx
  have hz := Hd.mk hz
  simp only [ndV]
  have h4 : (n4 : Int) ≤ 140737488351232 := by have := H.out.b4; omega
  have h5 : (n5 : Int) ≤ 140737488351232 := by have := H.out.b5; omega
  have h6 : (n6 : Int) ≤ 140737488351232 := by have := H.out.b6; omega
  by_cases a1 : level < 0
  · have a1d : decide (level < 0) = true := by simpa using a1
    go_enter Try.func80, Try.ntmps80
    go_wp2_with (go_at_call 115; refine (refKey_any _ _).mono ?_; rintro e w' ⟨rfl, rfl⟩)
    obtain ⟨W, hW, hk, hc0, hc1, hc2, hc3, hc4, hc5, hc6, hb⟩ := nd_box w level lsn right high A4 n4 c4 A5 n5 c5 A6 n6 c6
    rw [hW]
    clear hW
    refine hR.out _ _ ⟨?_, hk.out⟩
    rw [← hx.out, show okB ⟨level, lsn, right, high, keys, vals, kids⟩ = false from by simp only [okB, headB, inB_low a1, Bool.false_and]] <;> rfl
  · have a1d : decide (level < 0) = false := by simpa using a1
    by_cases a2 : 20 < level
    · have a2d : decide (20 < level) = true := by simpa using a2
      go_enter Try.func80, Try.ntmps80
      go_wp2_with (go_at_call 115; refine (refKey_any _ _).mono ?_; rintro e w' ⟨rfl, rfl⟩)
      obtain ⟨W, hW, hk, hc0, hc1, hc2, hc3, hc4, hc5, hc6, hb⟩ := nd_box w level lsn right high A4 n4 c4 A5 n5 c5 A6 n6 c6
      rw [hW]
      clear hW
      refine hR.out _ _ ⟨?_, hk.out⟩
      rw [← hx.out, show okB ⟨level, lsn, right, high, keys, vals, kids⟩ = false from by simp only [okB, headB, inB_high a2, Bool.false_and]] <;> rfl
    · have a2d : decide (20 < level) = false := by simpa using a2
      by_cases a3 : lsn < 0
      · have a3d : decide (lsn < 0) = true := by simpa using a3
        go_enter Try.func80, Try.ntmps80
        go_wp2_with (go_at_call 115; refine (refKey_any _ _).mono ?_; rintro e w' ⟨rfl, rfl⟩)
        obtain ⟨W, hW, hk, hc0, hc1, hc2, hc3, hc4, hc5, hc6, hb⟩ := nd_box w level lsn right high A4 n4 c4 A5 n5 c5 A6 n6 c6
        rw [hW]
        clear hW
        refine hR.out _ _ ⟨?_, hk.out⟩
        rw [← hx.out, show okB ⟨level, lsn, right, high, keys, vals, kids⟩ = false from by simp only [okB, headB, inB_low a3, Bool.false_and, Bool.and_false]] <;> rfl
      · have a3d : decide (lsn < 0) = false := by simpa using a3
        by_cases a4 : 1099511627776 < lsn
        · have a4d : decide (1099511627776 < lsn) = true := by simpa using a4
          go_enter Try.func80, Try.ntmps80
          go_wp2_with (go_at_call 115; refine (refKey_any _ _).mono ?_; rintro e w' ⟨rfl, rfl⟩)
          obtain ⟨W, hW, hk, hc0, hc1, hc2, hc3, hc4, hc5, hc6, hb⟩ := nd_box w level lsn right high A4 n4 c4 A5 n5 c5 A6 n6 c6
          rw [hW]
          clear hW
          refine hR.out _ _ ⟨?_, hk.out⟩
          rw [← hx.out, show okB ⟨level, lsn, right, high, keys, vals, kids⟩ = false from by simp only [okB, headB, inB_high a4, Bool.false_and, Bool.and_false]] <;> rfl
        · have a4d : decide (1099511627776 < lsn) = false := by simpa using a4
          by_cases a5 : right < 0
          · have a5d : decide (right < 0) = true := by simpa using a5
            go_enter Try.func80, Try.ntmps80
            go_wp2_with (go_at_call 115; refine (refKey_any _ _).mono ?_; rintro e w' ⟨rfl, rfl⟩)
            obtain ⟨W, hW, hk, hc0, hc1, hc2, hc3, hc4, hc5, hc6, hb⟩ := nd_box w level lsn right high A4 n4 c4 A5 n5 c5 A6 n6 c6
            rw [hW]
            clear hW
            refine hR.out _ _ ⟨?_, hk.out⟩
            rw [← hx.out, show okB ⟨level, lsn, right, high, keys, vals, kids⟩ = false from by simp only [okB, headB, inB_low a5, Bool.false_and, Bool.and_false]] <;> rfl
          · have a5d : decide (right < 0) = false := by simpa using a5
            by_cases a6 : 4096 < right
            · have a6d : decide (4096 < right) = true := by simpa using a6
              go_enter Try.func80, Try.ntmps80
              go_wp2_with (go_at_call 115; refine (refKey_any _ _).mono ?_; rintro e w' ⟨rfl, rfl⟩)
              obtain ⟨W, hW, hk, hc0, hc1, hc2, hc3, hc4, hc5, hc6, hb⟩ := nd_box w level lsn right high A4 n4 c4 A5 n5 c5 A6 n6 c6
              rw [hW]
              clear hW
              refine hR.out _ _ ⟨?_, hk.out⟩
              rw [← hx.out, show okB ⟨level, lsn, right, high, keys, vals, kids⟩ = false from by simp only [okB, headB, inB_high a6, Bool.false_and, Bool.and_false]] <;> rfl
            · have a6d : decide (4096 < right) = false := by simpa using a6
              have i1 := Hd.mk (inB_yes a1 a2)
              have i2 := Hd.mk (inB_yes a3 a4)
              have i3 := Hd.mk (inB_yes a5 a6)
              cases hhe : high.toList.isEmpty with
              | true =>
                go_enter Try.func80, Try.ntmps80
                go_wp2_with (go_at_call 115; refine (refKey_any _ _).mono ?_; rintro e w' ⟨rfl, rfl⟩)
                obtain ⟨W, hW, hk, hc0, hc1, hc2, hc3, hc4, hc5, hc6, hb⟩ := nd_box w level lsn right high A4 n4 c4 A5 n5 c5 A6 n6 c6
                rw [hW]
                clear hW
                have hK := Hd.mk hk.out
                go_loopg [51] n4 (fun k' v51 wr => ∃ (i : Nat) (V : World), V = wr ∧ Hd (i ≤ n4 ∧ k' = n4 - i) ∧ v51 = .int .i64 i ∧ Hd ((List.range i).all (fun i => keyB high keys i (keys[i]?.getD high)) = true) ∧ Hd (Ext w V) ∧ V.heap[w.heap.size]? = some (.cells #[.int .i64 level, .int .i64 lsn, .int .i64 right, .string high, .slice A4 n4 c4, .slice A5 n5 c5, .slice A6 n6 c6] 25 (0, 0)))
                case atStart => exact ⟨0, _, rfl, ⟨by omega⟩, rfl, ⟨by simp⟩, hk, hb⟩
                case round =>
                  obtain ⟨i, V, rfl, hi, rfl, hany, hK, hb⟩ := hrel
                  clear hc0 hc1 hc2 hc3 hc4 hc5 hc6
                  obtain ⟨hc0, hc1, hc2, hc3, hc4, hc5, hc6⟩ := nd_facts hb
                  by_cases hlt : (i : Int) < n4
                  · have hg : keys[i]? = some (keys[i]'(by have := l4.out; (try simp only at this); omega)) := List.getElem?_eq_getElem _
                    obtain ⟨ad, rfl, hcell0⟩ := (H.out.ext hK.out).keys.at_ (sz := 1) (fun _ => rfl) i _ hg
                    have hcell := hcell0 0 _ rfl
                    simp only [Nat.mul_one, Nat.add_zero] at hcell
                    clear hcell0
                    have hks := bk.out _ (List.mem_of_getElem? hg)
                    have hhs := H.out.bh
                    simp only at hhs
                    have hg := Hd.mk hg
                    generalize keys[i]'_ = k at hg hcell hks
                    cases hq : (keyCk k != 0) with
                    | true =>
                      have hq0 : Hd ((keyCk k == 0) = false) := ⟨by simpa using hq⟩
                      go_wp2_with (go_at_call 115; refine (refKey_any _ _).mono ?_; rintro e w' ⟨rfl, rfl⟩)
                      refine hR.out _ _ ⟨?_, hK.out⟩
                      rw [← hx.out, show okB ⟨level, lsn, right, high, keys, vals, kids⟩ = false from okB_key (n := ⟨level, lsn, right, high, keys, vals, kids⟩) hg.out (by simp only [keyB, hq0.out, Bool.false_and])] <;> rfl
                    | false =>
                      have hq' : Hd ((keyCk k == 0) = true) := ⟨by simpa using hq⟩
                      by_cases hi0 : 0 < (i : Int)
                      · have hi0d : decide (0 < (i : Int)) = true := by simpa using hi0
                        obtain ⟨m, hm⟩ : ∃ m, i - 1 = m := ⟨_, rfl⟩
                        have hmi : m + 1 = i := by omega
                        have hgp : keys[m]? = some (keys[m]'(by have := (List.getElem?_eq_some_iff.1 hg.out).1; omega)) := List.getElem?_eq_getElem _
                        obtain ⟨ad', e', hcell0⟩ := (H.out.ext hK.out).keys.at_ (sz := 1) (fun _ => rfl) m _ hgp
                        obtain rfl := Option.some.inj e'
                        have hcellp := hcell0 0 _ rfl
                        simp only [Nat.mul_one, Nat.add_zero] at hcellp
                        clear hcell0
                        have hps := bk.out _ (List.mem_of_getElem? hgp)
                        have hgp := Hd.mk hgp
                        generalize keys[m]'_ = kp at hgp hcellp hps
                        have hwm : IntKind.i64.wrap ((i : Int) - 1) = (m : Int) := by rw [IntKind.wrap_i64]; omega
                        have hwl : (m : Int) < (n4 : Int) := by omega
                        have hwz : (0 : Int) ≤ (m : Int) := by omega
                        have hpp : Hd (prevB keys i k = ltB kp k) := ⟨prevB_pos (by omega) (by rw [hm]; exact hgp.out)⟩
                        cases hpv : ltB kp k with
                        | false =>
                          have hpf : Hd (prevB keys i k = false) := ⟨hpp.out.trans hpv⟩
                          have hcp : decide (0 ≤ cmpB kp k) = true := by rw [cmp_ge, hpv]; rfl
                          go_wp2_with (first | (go_at_call 115; refine (refKey_any _ _).mono ?_; rintro e w' ⟨rfl, rfl⟩) | (go_at_call 122; refine (compare_any _ _ hps hks _).mono ?_; rintro e w2 ⟨rfl, hw2⟩; have hK2 := Hd.mk (hK.out.then' hw2); have hb3 := hw2.blk hb id))
                          refine hR.out _ _ ⟨?_, hK2.out⟩
                          rw [← hx.out, show okB ⟨level, lsn, right, high, keys, vals, kids⟩ = false from okB_key (n := ⟨level, lsn, right, high, keys, vals, kids⟩) hg.out (by simp only [keyB, hpf.out, Bool.and_false, Bool.false_and])] <;> rfl
                        | true =>
                          have hpf : Hd (prevB keys i k = true) := ⟨hpp.out.trans hpv⟩
                          have hcp : decide (0 ≤ cmpB kp k) = false := by rw [cmp_ge, hpv]; rfl
                          go_wp2_with (first | (go_at_call 115; refine (refKey_any _ _).mono ?_; rintro e w' ⟨rfl, rfl⟩) | (go_at_call 122; refine (compare_any _ _ hps hks _).mono ?_; rintro e w2 ⟨rfl, hw2⟩; have hK2 := Hd.mk (hK.out.then' hw2); have hb3 := hw2.blk hb id))
                          go_roundg (n4 - (i + 1))
                          case measure => have := hi.out; omega
                          case rel => exact ⟨i + 1, _, rfl, ⟨by have := hi.out; omega⟩, by go_num, ⟨by rw [all_range_succ, hany.out]; simp only [hg.out, Option.getD_some, keyB, hq'.out, hpf.out, hhe, Bool.and_true, Bool.true_or]⟩, hK2, hb3⟩
                      · have hi0d : decide (0 < (i : Int)) = false := by simpa using hi0
                        have hpf : Hd (prevB keys i k = true) := ⟨prevB_zero (by omega)⟩
                        go_wp2_with (go_at_call 115; refine (refKey_any _ _).mono ?_; rintro e w' ⟨rfl, rfl⟩)
                        go_roundg (n4 - (i + 1))
                        case measure => have := hi.out; omega
                        case rel => exact ⟨i + 1, _, rfl, ⟨by have := hi.out; omega⟩, by go_num, ⟨by rw [all_range_succ, hany.out]; simp only [hg.out, Option.getD_some, keyB, hq'.out, hpf.out, hhe, Bool.and_true, Bool.true_or]⟩, hK, hb⟩
                  · have he : Hd (keysB high keys = true) := ⟨by have h := hany.out; unfold keysB; rw [show keys.length = i by have := l4.out; (try simp only at this); have := hi.out; omega]; exact h⟩
                    by_cases hl : level = 0
                    · subst hl
                      have hl : Hd ((0 : Int) = 0) := ⟨rfl⟩
                      by_cases hb1 : n5 = n4
                      · have hb1' : ((n5 : Int) != (n4 : Int)) = false := by simp [hb1]
                        have hsz := Hd.mk hb1
                        clear hb1
                        by_cases hb2 : 0 < (n6 : Int)
                        · have hb2d : decide (0 < (n6 : Int)) = true := by simpa using hb2
                          have hb2' : Hd (¬ kids.length = 0) := ⟨by have := l6.out; (try simp only at this); omega⟩
                          go_wp2
                          refine hR.out _ _ ⟨?_, hK.out⟩
                          rw [← hx.out, show okB ⟨0, lsn, right, high, keys, vals, kids⟩ = false from by simp [okB, partsB, hb2'.out]] <;> rfl
                        · have hb2d : decide (0 < (n6 : Int)) = false := by simpa using hb2
                          obtain rfl : n6 = 0 := by omega
                          go_wp2
                          go_loopg [104] n5 (fun k' vv wr' => ∃ i : Nat, Hd (i ≤ n5 ∧ k' = n5 - i) ∧ vv = .int .i64 i ∧ Hd ((vals.take i).any badV = false) ∧ V = wr')
                          case atStart => exact ⟨0, ⟨by omega⟩, rfl, ⟨by simp⟩, rfl⟩
                          case round =>
                            obtain ⟨i, hi, rfl, hany, rfl⟩ := hrel
                            by_cases hlt2 : (i : Int) < n5
                            · have hg : vals[i]? = some (vals[i]'(by have := l5.out; (try simp only at this); omega)) := List.getElem?_eq_getElem _
                              obtain ⟨ad, rfl, hcell0⟩ := (H.out.ext hK.out).vals.at_ (sz := 1) (fun _ => rfl) i _ hg
                              have hcell := hcell0 0 _ rfl
                              simp only [Nat.mul_one, Nat.add_zero] at hcell
                              clear hcell0
                              have hg := Hd.mk hg
                              generalize vals[i]'_ = k at hg hcell
                              cases hv : (valCk k != 0) with
                              | true =>
                                have hb0 : Hd (badV k = true) := ⟨by rw [← hv]; unfold badV valCk; by_cases h : k.size ≤ 32 <;> simp [h] <;> omega⟩
                                go_wp2_with (go_at_call 116; refine (refValue_any _ _).mono ?_; rintro e w' ⟨rfl, rfl⟩)
                                refine hR.out _ _ ⟨?_, hK.out⟩
                                rw [← hx.out, show okB ⟨0, lsn, right, high, keys, vals, kids⟩ = false from by simp [okB, partsB, any_of_get hg.out hb0.out]] <;> rfl
                              | false =>
                                have hb0 : Hd (badV k = false) := ⟨by rw [← hv]; unfold badV valCk; by_cases h : k.size ≤ 32 <;> simp [h] <;> omega⟩
                                go_wp2_with (go_at_call 116; refine (refValue_any _ _).mono ?_; rintro e w' ⟨rfl, rfl⟩)
                                go_roundg (n5 - (i + 1))
                                case measure => have := hi.out; omega
                                case rel => exact ⟨i + 1, ⟨by have := hi.out; omega⟩, by go_num, ⟨by rw [any_take_succ hg.out, hany.out, hb0.out]; rfl⟩, rfl⟩
                            · have hae : Hd (vals.any badV = false) := ⟨by have h := hany.out; rw [List.take_of_length_le (by have := l5.out; (try simp only at this); have := hi.out; omega)] at h; exact h⟩
                              go_wp2_with (go_at_call 28; refine (refsize_any _ _ _ _ _ _ _ _ _ _ _ (H.out.ext hK.out)).mono ?_; rintro e W3 ⟨rfl, hk3⟩; rw [hz.out])
                              refine hR.out _ _ ⟨?_, hK.out.then' hk3⟩
                              rw [← hx.out]
                              have e : okB ⟨0, lsn, right, high, keys, vals, kids⟩ = decide (z ≤ 256) := by simp [okB, partsB, hz.out, l4.out, l5.out, l6.out, hsz.out, hae.out, headB, i1.out, i2.out, i3.out, he.out, hhe]
                              rw [e] <;> rfl
                      · have hb1' : ((n5 : Int) != (n4 : Int)) = true := by simp; omega
                        have hb2' : Hd (¬ vals.length = keys.length) := ⟨by have := l5.out; have := l4.out; (try simp only at *); omega⟩
                        go_wp2
                        refine hR.out _ _ ⟨?_, hK.out⟩
                        rw [← hx.out, show okB ⟨0, lsn, right, high, keys, vals, kids⟩ = false from by simp [okB, partsB, hb2'.out]] <;> rfl
                    · have hl0 : (level == 0) = false := by simp [hl]
                      have hl := Hd.mk hl
                      by_cases hb1 : n6 = n4 + 1
                      · have hb1' : ((n6 : Int) != (n4 : Int) + 1) = false := by simp [hb1]
                        have hsz := Hd.mk hb1
                        clear hb1
                        by_cases hb2 : 0 < (n5 : Int)
                        · have hb2d : decide (0 < (n5 : Int)) = true := by simpa using hb2
                          have hb2' : Hd (¬ vals.length = 0) := ⟨by have := l5.out; (try simp only at this); omega⟩
                          go_wp2
                          refine hR.out _ _ ⟨?_, hK.out⟩
                          rw [← hx.out, show okB ⟨level, lsn, right, high, keys, vals, kids⟩ = false from by simp [okB, partsB, hl.out, hb2'.out]] <;> rfl
                        · have hb2d : decide (0 < (n5 : Int)) = false := by simpa using hb2
                          obtain rfl : n5 = 0 := by omega
                          go_wp2
                          go_loopg [129] n6 (fun k' vv wr' => ∃ i : Nat, Hd (i ≤ n6 ∧ k' = n6 - i) ∧ vv = .int .i64 i ∧ Hd ((kids.take i).any badK = false) ∧ V = wr')
                          case atStart => exact ⟨0, ⟨by omega⟩, rfl, ⟨by simp⟩, rfl⟩
                          case round =>
                            obtain ⟨i, hi, rfl, hany, rfl⟩ := hrel
                            by_cases hlt2 : (i : Int) < n6
                            · have hg : kids[i]? = some (kids[i]'(by have := l6.out; (try simp only at this); omega)) := List.getElem?_eq_getElem _
                              obtain ⟨ad, rfl, hcell0⟩ := (H.out.ext hK.out).kids.at_ (sz := 1) (fun _ => rfl) i _ hg
                              have hcell := hcell0 0 _ rfl
                              simp only [Nat.mul_one, Nat.add_zero] at hcell
                              clear hcell0
                              have hg := Hd.mk hg
                              generalize kids[i]'_ = k at hg hcell
                              by_cases hv : k < 1
                              · have hvd : decide (k < 1) = true := by simpa using hv
                                have hb0 : Hd (badK k = true) := ⟨by simp [badK, hv]⟩
                                go_wp2
                                refine hR.out _ _ ⟨?_, hK.out⟩
                                rw [← hx.out, show okB ⟨level, lsn, right, high, keys, vals, kids⟩ = false from by simp [okB, partsB, any_of_get hg.out hb0.out, hl.out]] <;> rfl
                              · have hvd : decide (k < 1) = false := by simpa using hv
                                by_cases hv2 : 4096 < k
                                · have hvd2 : decide (4096 < k) = true := by simpa using hv2
                                  have hb0 : Hd (badK k = true) := ⟨by simp [badK, hv2]⟩
                                  go_wp2
                                  refine hR.out _ _ ⟨?_, hK.out⟩
                                  rw [← hx.out, show okB ⟨level, lsn, right, high, keys, vals, kids⟩ = false from by simp [okB, partsB, any_of_get hg.out hb0.out, hl.out]] <;> rfl
                                · have hvd2 : decide (4096 < k) = false := by simpa using hv2
                                  have hb0 : Hd (badK k = false) := ⟨by simp only [badK, hvd, hvd2]; rfl⟩
                                  go_wp2
                                  go_roundg (n6 - (i + 1))
                                  case measure => have := hi.out; omega
                                  case rel => exact ⟨i + 1, ⟨by have := hi.out; omega⟩, by go_num, ⟨by rw [any_take_succ hg.out, hany.out, hb0.out]; rfl⟩, rfl⟩
                            · have hae : Hd (kids.any badK = false) := ⟨by have h := hany.out; rw [List.take_of_length_le (by have := l6.out; (try simp only at this); have := hi.out; omega)] at h; exact h⟩
                              go_wp2_with (go_at_call 28; refine (refsize_any _ _ _ _ _ _ _ _ _ _ _ (H.out.ext hK.out)).mono ?_; rintro e W3 ⟨rfl, hk3⟩; rw [hz.out])
                              refine hR.out _ _ ⟨?_, hK.out.then' hk3⟩
                              rw [← hx.out]
                              have e : okB ⟨level, lsn, right, high, keys, vals, kids⟩ = decide (z ≤ 256) := by simp [okB, partsB, hz.out, l4.out, l5.out, l6.out, hl.out, hsz.out, hae.out, headB, i1.out, i2.out, i3.out, he.out, hhe]
                              rw [e] <;> rfl
                      · have hb1' : ((n6 : Int) != (n4 : Int) + 1) = true := by simp; omega
                        have hb2' : Hd (¬ kids.length = keys.length + 1) := ⟨by have := l6.out; have := l4.out; (try simp only at *); omega⟩
                        go_wp2
                        refine hR.out _ _ ⟨?_, hK.out⟩
                        rw [← hx.out, show okB ⟨level, lsn, right, high, keys, vals, kids⟩ = false from by simp [okB, partsB, hl.out, hb2'.out]] <;> rfl
              | false =>
                cases hhk : (keyCk high != 0) with
                | true =>
                  have hhk0 : Hd ((keyCk high == 0) = false) := ⟨by simpa using hhk⟩
                  go_enter Try.func80, Try.ntmps80
                  go_wp2_with (go_at_call 115; refine (refKey_any _ _).mono ?_; rintro e w' ⟨rfl, rfl⟩)
                  obtain ⟨W, hW, hk, hc0, hc1, hc2, hc3, hc4, hc5, hc6, hb⟩ := nd_box w level lsn right high A4 n4 c4 A5 n5 c5 A6 n6 c6
                  rw [hW]
                  clear hW
                  refine hR.out _ _ ⟨?_, hk.out⟩
                  rw [← hx.out, show okB ⟨level, lsn, right, high, keys, vals, kids⟩ = false from by simp only [okB, headB, hhe, hhk0.out, Bool.or_false, Bool.false_and, Bool.and_false]] <;> rfl
                | false =>
                  have hhk0 : Hd ((keyCk high == 0) = true) := ⟨by simpa using hhk⟩
                  go_enter Try.func80, Try.ntmps80
                  go_wp2_with (go_at_call 115; refine (refKey_any _ _).mono ?_; rintro e w' ⟨rfl, rfl⟩)
                  obtain ⟨W, hW, hk, hc0, hc1, hc2, hc3, hc4, hc5, hc6, hb⟩ := nd_box w level lsn right high A4 n4 c4 A5 n5 c5 A6 n6 c6
                  rw [hW]
                  clear hW
                  have hK := Hd.mk hk.out
                  go_loopg [51] n4 (fun k' v51 wr => ∃ (i : Nat) (V : World), V = wr ∧ Hd (i ≤ n4 ∧ k' = n4 - i) ∧ v51 = .int .i64 i ∧ Hd ((List.range i).all (fun i => keyB high keys i (keys[i]?.getD high)) = true) ∧ Hd (Ext w V) ∧ V.heap[w.heap.size]? = some (.cells #[.int .i64 level, .int .i64 lsn, .int .i64 right, .string high, .slice A4 n4 c4, .slice A5 n5 c5, .slice A6 n6 c6] 25 (0, 0)))
                  case atStart => exact ⟨0, _, rfl, ⟨by omega⟩, rfl, ⟨by simp⟩, hk, hb⟩
                  case round =>
                    obtain ⟨i, V, rfl, hi, rfl, hany, hK, hb⟩ := hrel
                    clear hc0 hc1 hc2 hc3 hc4 hc5 hc6
                    obtain ⟨hc0, hc1, hc2, hc3, hc4, hc5, hc6⟩ := nd_facts hb
                    by_cases hlt : (i : Int) < n4
                    · have hg : keys[i]? = some (keys[i]'(by have := l4.out; (try simp only at this); omega)) := List.getElem?_eq_getElem _
                      obtain ⟨ad, rfl, hcell0⟩ := (H.out.ext hK.out).keys.at_ (sz := 1) (fun _ => rfl) i _ hg
                      have hcell := hcell0 0 _ rfl
                      simp only [Nat.mul_one, Nat.add_zero] at hcell
                      clear hcell0
                      have hks := bk.out _ (List.mem_of_getElem? hg)
                      have hhs := H.out.bh
                      simp only at hhs
                      have hg := Hd.mk hg
                      generalize keys[i]'_ = k at hg hcell hks
                      cases hq : (keyCk k != 0) with
                      | true =>
                        have hq0 : Hd ((keyCk k == 0) = false) := ⟨by simpa using hq⟩
                        go_wp2_with (go_at_call 115; refine (refKey_any _ _).mono ?_; rintro e w' ⟨rfl, rfl⟩)
                        refine hR.out _ _ ⟨?_, hK.out⟩
                        rw [← hx.out, show okB ⟨level, lsn, right, high, keys, vals, kids⟩ = false from okB_key (n := ⟨level, lsn, right, high, keys, vals, kids⟩) hg.out (by simp only [keyB, hq0.out, Bool.false_and])] <;> rfl
                      | false =>
                        have hq' : Hd ((keyCk k == 0) = true) := ⟨by simpa using hq⟩
                        cases hlh : ltB k high with
                        | false =>
                          have hch : decide (0 ≤ cmpB k high) = true := by rw [cmp_ge, hlh]; rfl
                          have hlh' := Hd.mk hlh
                          go_wp2_with (first | (go_at_call 115; refine (refKey_any _ _).mono ?_; rintro e w' ⟨rfl, rfl⟩) | (go_at_call 122; refine (compare_any _ _ hks hhs _).mono ?_; rintro e w1 ⟨rfl, hw1⟩; have hK1 := Hd.mk (hK.out.then' hw1); have hb1 := hw1.blk hb id; obtain ⟨hd0, hd1, hd2, hd3, hd4, hd5, hd6⟩ := nd_facts hb1; have hcell1 := hw1.cell hcell id))
                          refine hR.out _ _ ⟨?_, hK1.out⟩
                          rw [← hx.out, show okB ⟨level, lsn, right, high, keys, vals, kids⟩ = false from okB_key (n := ⟨level, lsn, right, high, keys, vals, kids⟩) hg.out (by simp only [keyB, hlh'.out, hhe, Bool.or_false, Bool.and_false])] <;> rfl
                        | true =>
                          have hch : decide (0 ≤ cmpB k high) = false := by rw [cmp_ge, hlh]; rfl
                          have hlh' := Hd.mk hlh
                          by_cases hi0 : 0 < (i : Int)
                          · have hi0d : decide (0 < (i : Int)) = true := by simpa using hi0
                            obtain ⟨m, hm⟩ : ∃ m, i - 1 = m := ⟨_, rfl⟩
                            have hmi : m + 1 = i := by omega
                            have hgp : keys[m]? = some (keys[m]'(by have := (List.getElem?_eq_some_iff.1 hg.out).1; omega)) := List.getElem?_eq_getElem _
                            obtain ⟨ad', e', hcell0⟩ := (H.out.ext hK.out).keys.at_ (sz := 1) (fun _ => rfl) m _ hgp
                            obtain rfl := Option.some.inj e'
                            have hcellp := hcell0 0 _ rfl
                            simp only [Nat.mul_one, Nat.add_zero] at hcellp
                            clear hcell0
                            have hps := bk.out _ (List.mem_of_getElem? hgp)
                            have hgp := Hd.mk hgp
                            generalize keys[m]'_ = kp at hgp hcellp hps
                            have hwm : IntKind.i64.wrap ((i : Int) - 1) = (m : Int) := by rw [IntKind.wrap_i64]; omega
                            have hwl : (m : Int) < (n4 : Int) := by omega
                            have hwz : (0 : Int) ≤ (m : Int) := by omega
                            have hpp : Hd (prevB keys i k = ltB kp k) := ⟨prevB_pos (by omega) (by rw [hm]; exact hgp.out)⟩
                            cases hpv : ltB kp k with
                            | false =>
                              have hpf : Hd (prevB keys i k = false) := ⟨hpp.out.trans hpv⟩
                              have hcp : decide (0 ≤ cmpB kp k) = true := by rw [cmp_ge, hpv]; rfl
                              go_wp2_with (first | (go_at_call 115; refine (refKey_any _ _).mono ?_; rintro e w' ⟨rfl, rfl⟩) | (go_at_call_of 122 (Value.string high); refine (compare_any _ _ hks hhs _).mono ?_; rintro e w1 ⟨rfl, hw1⟩; have hK1 := Hd.mk (hK.out.then' hw1); have hb1 := hw1.blk hb id; obtain ⟨hd0, hd1, hd2, hd3, hd4, hd5, hd6⟩ := nd_facts hb1; have hcell1 := hw1.cell hcell id; have hcellq := hw1.cell hcellp id) | (go_at_call_of 122 (Value.string kp); refine (compare_any _ _ hps hks _).mono ?_; rintro e w2 ⟨rfl, hw2⟩; have hK2 := Hd.mk (hK1.out.then' hw2); have hb3 := hw2.blk hb1 id))
                              refine hR.out _ _ ⟨?_, hK2.out⟩
                              rw [← hx.out, show okB ⟨level, lsn, right, high, keys, vals, kids⟩ = false from okB_key (n := ⟨level, lsn, right, high, keys, vals, kids⟩) hg.out (by simp only [keyB, hpf.out, Bool.and_false, Bool.false_and])] <;> rfl
                            | true =>
                              have hpf : Hd (prevB keys i k = true) := ⟨hpp.out.trans hpv⟩
                              have hcp : decide (0 ≤ cmpB kp k) = false := by rw [cmp_ge, hpv]; rfl
                              go_wp2_with (first | (go_at_call 115; refine (refKey_any _ _).mono ?_; rintro e w' ⟨rfl, rfl⟩) | (go_at_call_of 122 (Value.string high); refine (compare_any _ _ hks hhs _).mono ?_; rintro e w1 ⟨rfl, hw1⟩; have hK1 := Hd.mk (hK.out.then' hw1); have hb1 := hw1.blk hb id; obtain ⟨hd0, hd1, hd2, hd3, hd4, hd5, hd6⟩ := nd_facts hb1; have hcell1 := hw1.cell hcell id; have hcellq := hw1.cell hcellp id) | (go_at_call_of 122 (Value.string kp); refine (compare_any _ _ hps hks _).mono ?_; rintro e w2 ⟨rfl, hw2⟩; have hK2 := Hd.mk (hK1.out.then' hw2); have hb3 := hw2.blk hb1 id))
                              go_roundg (n4 - (i + 1))
                              case measure => have := hi.out; omega
                              case rel => exact ⟨i + 1, _, rfl, ⟨by have := hi.out; omega⟩, by go_num, ⟨by rw [all_range_succ, hany.out]; simp only [hg.out, Option.getD_some, keyB, hq'.out, hpf.out, hlh'.out, Bool.and_true, Bool.or_true]⟩, hK2, hb3⟩
                          · have hi0d : decide (0 < (i : Int)) = false := by simpa using hi0
                            have hpf : Hd (prevB keys i k = true) := ⟨prevB_zero (by omega)⟩
                            go_wp2_with (first | (go_at_call 115; refine (refKey_any _ _).mono ?_; rintro e w' ⟨rfl, rfl⟩) | (go_at_call 122; refine (compare_any _ _ hks hhs _).mono ?_; rintro e w1 ⟨rfl, hw1⟩; have hK1 := Hd.mk (hK.out.then' hw1); have hb1 := hw1.blk hb id; obtain ⟨hd0, hd1, hd2, hd3, hd4, hd5, hd6⟩ := nd_facts hb1; have hcell1 := hw1.cell hcell id))
                            go_roundg (n4 - (i + 1))
                            case measure => have := hi.out; omega
                            case rel => exact ⟨i + 1, _, rfl, ⟨by have := hi.out; omega⟩, by go_num, ⟨by rw [all_range_succ, hany.out]; simp only [hg.out, Option.getD_some, keyB, hq'.out, hpf.out, hlh'.out, Bool.and_true, Bool.or_true]⟩, hK1, hb1⟩
                    · have he : Hd (keysB high keys = true) := ⟨by have h := hany.out; unfold keysB; rw [show keys.length = i by have := l4.out; (try simp only at this); have := hi.out; omega]; exact h⟩
                      by_cases hl : level = 0
                      · subst hl
                        have hl : Hd ((0 : Int) = 0) := ⟨rfl⟩
                        by_cases hb1 : n5 = n4
                        · have hb1' : ((n5 : Int) != (n4 : Int)) = false := by simp [hb1]
                          have hsz := Hd.mk hb1
                          clear hb1
                          by_cases hb2 : 0 < (n6 : Int)
                          · have hb2d : decide (0 < (n6 : Int)) = true := by simpa using hb2
                            have hb2' : Hd (¬ kids.length = 0) := ⟨by have := l6.out; (try simp only at this); omega⟩
                            go_wp2
                            refine hR.out _ _ ⟨?_, hK.out⟩
                            rw [← hx.out, show okB ⟨0, lsn, right, high, keys, vals, kids⟩ = false from by simp [okB, partsB, hb2'.out]] <;> rfl
                          · have hb2d : decide (0 < (n6 : Int)) = false := by simpa using hb2
                            obtain rfl : n6 = 0 := by omega
                            go_wp2
                            go_loopg [104] n5 (fun k' vv wr' => ∃ i : Nat, Hd (i ≤ n5 ∧ k' = n5 - i) ∧ vv = .int .i64 i ∧ Hd ((vals.take i).any badV = false) ∧ V = wr')
                            case atStart => exact ⟨0, ⟨by omega⟩, rfl, ⟨by simp⟩, rfl⟩
                            case round =>
                              obtain ⟨i, hi, rfl, hany, rfl⟩ := hrel
                              by_cases hlt2 : (i : Int) < n5
                              · have hg : vals[i]? = some (vals[i]'(by have := l5.out; (try simp only at this); omega)) := List.getElem?_eq_getElem _
                                obtain ⟨ad, rfl, hcell0⟩ := (H.out.ext hK.out).vals.at_ (sz := 1) (fun _ => rfl) i _ hg
                                have hcell := hcell0 0 _ rfl
                                simp only [Nat.mul_one, Nat.add_zero] at hcell
                                clear hcell0
                                have hg := Hd.mk hg
                                generalize vals[i]'_ = k at hg hcell
                                cases hv : (valCk k != 0) with
                                | true =>
                                  have hb0 : Hd (badV k = true) := ⟨by rw [← hv]; unfold badV valCk; by_cases h : k.size ≤ 32 <;> simp [h] <;> omega⟩
                                  go_wp2_with (go_at_call 116; refine (refValue_any _ _).mono ?_; rintro e w' ⟨rfl, rfl⟩)
                                  refine hR.out _ _ ⟨?_, hK.out⟩
                                  rw [← hx.out, show okB ⟨0, lsn, right, high, keys, vals, kids⟩ = false from by simp [okB, partsB, any_of_get hg.out hb0.out]] <;> rfl
                                | false =>
                                  have hb0 : Hd (badV k = false) := ⟨by rw [← hv]; unfold badV valCk; by_cases h : k.size ≤ 32 <;> simp [h] <;> omega⟩
                                  go_wp2_with (go_at_call 116; refine (refValue_any _ _).mono ?_; rintro e w' ⟨rfl, rfl⟩)
                                  go_roundg (n5 - (i + 1))
                                  case measure => have := hi.out; omega
                                  case rel => exact ⟨i + 1, ⟨by have := hi.out; omega⟩, by go_num, ⟨by rw [any_take_succ hg.out, hany.out, hb0.out]; rfl⟩, rfl⟩
                              · have hae : Hd (vals.any badV = false) := ⟨by have h := hany.out; rw [List.take_of_length_le (by have := l5.out; (try simp only at this); have := hi.out; omega)] at h; exact h⟩
                                go_wp2_with (go_at_call 28; refine (refsize_any _ _ _ _ _ _ _ _ _ _ _ (H.out.ext hK.out)).mono ?_; rintro e W3 ⟨rfl, hk3⟩; rw [hz.out])
                                refine hR.out _ _ ⟨?_, hK.out.then' hk3⟩
                                rw [← hx.out]
                                have e : okB ⟨0, lsn, right, high, keys, vals, kids⟩ = decide (z ≤ 256) := by simp [okB, partsB, hz.out, l4.out, l5.out, l6.out, hsz.out, hae.out, headB, i1.out, i2.out, i3.out, he.out, hhe, hhk0.out]
                                rw [e] <;> rfl
                        · have hb1' : ((n5 : Int) != (n4 : Int)) = true := by simp; omega
                          have hb2' : Hd (¬ vals.length = keys.length) := ⟨by have := l5.out; have := l4.out; (try simp only at *); omega⟩
                          go_wp2
                          refine hR.out _ _ ⟨?_, hK.out⟩
                          rw [← hx.out, show okB ⟨0, lsn, right, high, keys, vals, kids⟩ = false from by simp [okB, partsB, hb2'.out]] <;> rfl
                      · have hl0 : (level == 0) = false := by simp [hl]
                        have hl := Hd.mk hl
                        by_cases hb1 : n6 = n4 + 1
                        · have hb1' : ((n6 : Int) != (n4 : Int) + 1) = false := by simp [hb1]
                          have hsz := Hd.mk hb1
                          clear hb1
                          by_cases hb2 : 0 < (n5 : Int)
                          · have hb2d : decide (0 < (n5 : Int)) = true := by simpa using hb2
                            have hb2' : Hd (¬ vals.length = 0) := ⟨by have := l5.out; (try simp only at this); omega⟩
                            go_wp2
                            refine hR.out _ _ ⟨?_, hK.out⟩
                            rw [← hx.out, show okB ⟨level, lsn, right, high, keys, vals, kids⟩ = false from by simp [okB, partsB, hl.out, hb2'.out]] <;> rfl
                          · have hb2d : decide (0 < (n5 : Int)) = false := by simpa using hb2
                            obtain rfl : n5 = 0 := by omega
                            go_wp2
                            go_loopg [129] n6 (fun k' vv wr' => ∃ i : Nat, Hd (i ≤ n6 ∧ k' = n6 - i) ∧ vv = .int .i64 i ∧ Hd ((kids.take i).any badK = false) ∧ V = wr')
                            case atStart => exact ⟨0, ⟨by omega⟩, rfl, ⟨by simp⟩, rfl⟩
                            case round =>
                              obtain ⟨i, hi, rfl, hany, rfl⟩ := hrel
                              by_cases hlt2 : (i : Int) < n6
                              · have hg : kids[i]? = some (kids[i]'(by have := l6.out; (try simp only at this); omega)) := List.getElem?_eq_getElem _
                                obtain ⟨ad, rfl, hcell0⟩ := (H.out.ext hK.out).kids.at_ (sz := 1) (fun _ => rfl) i _ hg
                                have hcell := hcell0 0 _ rfl
                                simp only [Nat.mul_one, Nat.add_zero] at hcell
                                clear hcell0
                                have hg := Hd.mk hg
                                generalize kids[i]'_ = k at hg hcell
                                by_cases hv : k < 1
                                · have hvd : decide (k < 1) = true := by simpa using hv
                                  have hb0 : Hd (badK k = true) := ⟨by simp [badK, hv]⟩
                                  go_wp2
                                  refine hR.out _ _ ⟨?_, hK.out⟩
                                  rw [← hx.out, show okB ⟨level, lsn, right, high, keys, vals, kids⟩ = false from by simp [okB, partsB, any_of_get hg.out hb0.out, hl.out]] <;> rfl
                                · have hvd : decide (k < 1) = false := by simpa using hv
                                  by_cases hv2 : 4096 < k
                                  · have hvd2 : decide (4096 < k) = true := by simpa using hv2
                                    have hb0 : Hd (badK k = true) := ⟨by simp [badK, hv2]⟩
                                    go_wp2
                                    refine hR.out _ _ ⟨?_, hK.out⟩
                                    rw [← hx.out, show okB ⟨level, lsn, right, high, keys, vals, kids⟩ = false from by simp [okB, partsB, any_of_get hg.out hb0.out, hl.out]] <;> rfl
                                  · have hvd2 : decide (4096 < k) = false := by simpa using hv2
                                    have hb0 : Hd (badK k = false) := ⟨by simp only [badK, hvd, hvd2]; rfl⟩
                                    go_wp2
                                    go_roundg (n6 - (i + 1))
                                    case measure => have := hi.out; omega
                                    case rel => exact ⟨i + 1, ⟨by have := hi.out; omega⟩, by go_num, ⟨by rw [any_take_succ hg.out, hany.out, hb0.out]; rfl⟩, rfl⟩
                              · have hae : Hd (kids.any badK = false) := ⟨by have h := hany.out; rw [List.take_of_length_le (by have := l6.out; (try simp only at this); have := hi.out; omega)] at h; exact h⟩
                                go_wp2_with (go_at_call 28; refine (refsize_any _ _ _ _ _ _ _ _ _ _ _ (H.out.ext hK.out)).mono ?_; rintro e W3 ⟨rfl, hk3⟩; rw [hz.out])
                                refine hR.out _ _ ⟨?_, hK.out.then' hk3⟩
                                rw [← hx.out]
                                have e : okB ⟨level, lsn, right, high, keys, vals, kids⟩ = decide (z ≤ 256) := by simp [okB, partsB, hz.out, l4.out, l5.out, l6.out, hl.out, hsz.out, hae.out, headB, i1.out, i2.out, i3.out, he.out, hhe, hhk0.out]
                                rw [e] <;> rfl
                        · have hb1' : ((n6 : Int) != (n4 : Int) + 1) = true := by simp; omega
                          have hb2' : Hd (¬ kids.length = keys.length + 1) := ⟨by have := l6.out; have := l4.out; (try simp only at *); omega⟩
                          go_wp2
                          refine hR.out _ _ ⟨?_, hK.out⟩
                          rw [← hx.out, show okB ⟨level, lsn, right, high, keys, vals, kids⟩ = false from by simp [okB, partsB, hl.out, hb2'.out]] <;> rfl

theorem refcheck_any (n : Nd) (A4 : Option Addr) (n4 c4 : Nat) (A5 : Option Addr) (n5 c5 : Nat) (A6 : Option Addr) (n6 c6 : Nat) (w : World) (h : NdAt w n A4 n4 c4 A5 n5 c5 A6 n6 c6) :
    Calls Try.prog 26 #[ndV n A4 n4 c4 A5 n5 c5 A6 n6 c6] w fun e w' => e = .returned (.int .i64 (okE n)) ∧ Ext w w' := by
  refine hide_post fun R hR => ?_
  have H := Hd.mk h; clear h
  obtain ⟨level, lsn, right, high, keys, vals, kids⟩ := n
  obtain ⟨x, hx⟩ : ∃ x, okB ⟨level, lsn, right, high, keys, vals, kids⟩ = x := ⟨_, rfl⟩
  have hE : Hd (okE ⟨level, lsn, right, high, keys, vals, kids⟩ = if x then 0 else 60) := ⟨by rw [okE, hx]⟩
  have hx := Hd.mk hx
  simp only [ndV]
  go_enter Try.func26, Try.ntmps26
  go_wp2_with fail
  obtain ⟨W, hW, hk, hc0, hc1, hc2, hc3, hc4, hc5, hc6, hb⟩ := nd_box w level lsn right high A4 n4 c4 A5 n5 c5 A6 n6 c6
  rw [hW]
  clear hW
  cases x with
  | true =>
    go_wp2_with (go_at_call 80; refine (right_any _ _ _ _ _ _ _ _ _ _ _ (H.out.ext hk.out)).mono ?_; rintro e W2 ⟨rfl, hk2⟩; have hk2 := Hd.mk hk2; rw [hx.out])
    exact hR.out _ _ ⟨by rw [hE.out] <;> rfl, hk.out.then' hk2.out⟩
  | false =>
    go_wp2_with (go_at_call 80; refine (right_any _ _ _ _ _ _ _ _ _ _ _ (H.out.ext hk.out)).mono ?_; rintro e W2 ⟨rfl, hk2⟩; have hk2 := Hd.mk hk2; rw [hx.out])
    exact hR.out _ _ ⟨by rw [hE.out] <;> rfl, hk.out.then' hk2.out⟩
end Go.Proofs.Ythpfkdaijiaalaa
