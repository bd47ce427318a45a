/- Whether a node is right. -/
import Derived.Test.YthpfkdaijiaalaaM
import Derived.Laws.Cover1
namespace Go.Proofs.Ythpfkdaijiaalaa
open Go.RowKit

/-- A node that is boxed. -/
theorem nd_box (w : World) (level lsn right : Int) (high : ByteArray) (A4 : Option Addr) (n4 c4 : Nat) (A5 : Option Addr) (n5 c5 : Nat) (A6 : Option Addr) (n6 c6 : Nat) :
    ∃ W, w.alloc (.cells #[.int .i64 level, .int .i64 lsn, .int .i64 right, .string high, .slice A4 n4 c4, .slice A5 n5 c5, .slice A6 n6 c6] 25) = W ∧ Hd (Ext w W) ∧
      W.cell? ⟨w.heap.size, 0, none⟩ = some (.int .i64 level) ∧ W.cell? ⟨w.heap.size, 1, none⟩ = some (.int .i64 lsn) ∧ W.cell? ⟨w.heap.size, 2, none⟩ = some (.int .i64 right) ∧ W.cell? ⟨w.heap.size, 3, none⟩ = some (.string high) ∧
      W.cell? ⟨w.heap.size, 4, none⟩ = some (.slice A4 n4 c4) ∧ W.cell? ⟨w.heap.size, 5, none⟩ = some (.slice A5 n5 c5) ∧ W.cell? ⟨w.heap.size, 6, none⟩ = some (.slice A6 n6 c6) ∧
      W.heap[w.heap.size]? = some (.cells #[.int .i64 level, .int .i64 lsn, .int .i64 right, .string high, .slice A4 n4 c4, .slice A5 n5 c5, .slice A6 n6 c6] 25 (0, 0)) := by
  have hk : Ext w (w.alloc (.cells #[.int .i64 level, .int .i64 lsn, .int .i64 right, .string high, .slice A4 n4 c4, .slice A5 n5 c5, .slice A6 n6 c6] 25)) := (ext_refl w).alloc _
  have hb := heap_alloc_new w (.cells #[.int .i64 level, .int .i64 lsn, .int .i64 right, .string high, .slice A4 n4 c4, .slice A5 n5 c5, .slice A6 n6 c6] 25)
  refine ⟨_, rfl, ⟨hk⟩, ?_⟩
  generalize w.alloc (.cells #[.int .i64 level, .int .i64 lsn, .int .i64 right, .string high, .slice A4 n4 c4, .slice A5 n5 c5, .slice A6 n6 c6] 25) = W at hb ⊢
  refine ⟨?_, ?_, ?_, ?_, ?_, ?_, ?_, hb⟩ <;> simp [World.cell?, hb]

def partsB (n : Nd) : Bool :=
  if n.level = 0 then decide (n.vals.length = n.keys.length) && decide (n.kids.length = 0) && !n.vals.any badV else decide (n.kids.length = n.keys.length + 1) && decide (n.vals.length = 0) && !n.kids.any badK

set_option maxRecDepth 100000 in
theorem parts_any (n : Nd) (A4 : Option Addr) (n4 c4 : Nat) (A5 : Option Addr) (n5 c5 : Nat) (A6 : Option Addr) (n6 c6 : Nat) (w : World) (h : NdAt w n A4 n4 c4 A5 n5 c5 A6 n6 c6) :
    Calls Try.prog 79 #[ndV n A4 n4 c4 A5 n5 c5 A6 n6 c6] w fun e w' => e = .returned (.bool (partsB n)) ∧ Ext w w' := by
  refine hide_post fun R hR => ?_
  have H := Hd.mk h; clear h
  have l4 := Hd.mk H.out.keys.len
  have l5 := Hd.mk H.out.vals.len
  have l6 := Hd.mk H.out.kids.len
  obtain ⟨level, lsn, right, high, keys, vals, kids⟩ := n
  simp only [ndV]
  have h4 : (n4 : Int) ≤ 140737488351232 := by have := H.out.b4; omega
  have h5 : (n5 : Int) ≤ 140737488351232 := by have := H.out.b5; omega
  have h6 : (n6 : Int) ≤ 140737488351232 := by have := H.out.b6; omega
  by_cases hl : level = 0
  · subst hl
    by_cases hb1 : n5 = n4
    · subst hb1
      by_cases hb2 : n6 = 0
      · subst hb2
        go_enter Try.func79, Try.ntmps79
        go_wp2_with fail
        obtain ⟨W, hW, hk, hc0, hc1, hc2, hc3, hc4, hc5, hc6, hb⟩ := nd_box w 0 lsn right high A4 n5 c4 A5 n5 c5 A6 0 c6
        rw [hW]
        clear hb hW
        go_wp2_with (go_at_call 119; refine (containsV_any _ _ _ _ _ (H.out.ext hk.out).vals (by have := H.out.b5; omega)).mono ?_; rintro e w' ⟨rfl, rfl⟩)
        exact hR.out _ _ ⟨by congr 2; simp [partsB, l4.out, l5.out, l6.out], hk.out⟩
      · have hb2' : ((n6 : Int) == 0) = false := by simp; omega
        have hb2 := Hd.mk hb2
        go_enter Try.func79, Try.ntmps79
        go_wp2_with fail
        obtain ⟨W, hW, hk, hc0, hc1, hc2, hc3, hc4, hc5, hc6, hb⟩ := nd_box w 0 lsn right high A4 n5 c4 A5 n5 c5 A6 n6 c6
        rw [hW]
        clear hb hW
        exact hR.out _ _ ⟨by congr 2; simp [partsB, l4.out, l5.out, l6.out, hb2.out], hk.out⟩
    · have hb1' : ((n5 : Int) == (n4 : Int)) = false := by simp; omega
      have hb1 := Hd.mk hb1
      go_enter Try.func79, Try.ntmps79
      go_wp2_with fail
      obtain ⟨W, hW, hk, hc0, hc1, hc2, hc3, hc4, hc5, hc6, hb⟩ := nd_box w 0 lsn right high A4 n4 c4 A5 n5 c5 A6 n6 c6
      rw [hW]
      clear hb hW
      exact hR.out _ _ ⟨by congr 2; simp [partsB, l4.out, l5.out, l6.out, hb1.out], hk.out⟩
  · have hl0 : (level == 0) = false := by simp [hl]
    have hl := Hd.mk hl
    by_cases hb1 : n6 = n4 + 1
    · subst hb1
      by_cases hb2 : n5 = 0
      · subst hb2
        go_enter Try.func79, Try.ntmps79
        go_wp2_with fail
        obtain ⟨W, hW, hk, hc0, hc1, hc2, hc3, hc4, hc5, hc6, hb⟩ := nd_box w level lsn right high A4 n4 c4 A5 0 c5 A6 (n4 + 1) c6
        rw [hW]
        clear hb hW
        go_wp2_with (go_at_call 121; refine (containsK_any _ _ _ _ _ (H.out.ext hk.out).kids (by have := H.out.b6; omega)).mono ?_; rintro e w' ⟨rfl, rfl⟩)
        exact hR.out _ _ ⟨by congr 2; simp [partsB, l4.out, l5.out, l6.out, hl.out], hk.out⟩
      · have hb2' : ((n5 : Int) == 0) = false := by simp; omega
        have hb2 := Hd.mk hb2
        go_enter Try.func79, Try.ntmps79
        go_wp2_with fail
        obtain ⟨W, hW, hk, hc0, hc1, hc2, hc3, hc4, hc5, hc6, hb⟩ := nd_box w level lsn right high A4 n4 c4 A5 n5 c5 A6 (n4 + 1) c6
        rw [hW]
        clear hb hW
        exact hR.out _ _ ⟨by congr 2; simp [partsB, l4.out, l5.out, l6.out, hl.out, hb2.out], hk.out⟩
    · have hb1' : ((n6 : Int) == (n4 : Int) + 1) = false := by simp; omega
      have hb1 := Hd.mk hb1
      go_enter Try.func79, Try.ntmps79
      go_wp2_with fail
      obtain ⟨W, hW, hk, hc0, hc1, hc2, hc3, hc4, hc5, hc6, hb⟩ := nd_box w level lsn right high A4 n4 c4 A5 n5 c5 A6 n6 c6
      rw [hW]
      clear hb hW
      exact hR.out _ _ ⟨by congr 2; simp [partsB, l4.out, l5.out, l6.out, hl.out, hb1.out], hk.out⟩
/-- A boxed node, in a later world. -/
theorem nd_facts {w : World} {g : Nat} {level lsn right : Int} {high : ByteArray} {A4 : Option Addr} {n4 c4 : Nat} {A5 : Option Addr} {n5 c5 : Nat} {A6 : Option Addr} {n6 c6 : Nat}
    (hb : w.heap[g]? = some (.cells #[.int .i64 level, .int .i64 lsn, .int .i64 right, .string high, .slice A4 n4 c4, .slice A5 n5 c5, .slice A6 n6 c6] 25 (0, 0))) :
      w.cell? ⟨g, 0, none⟩ = some (.int .i64 level) ∧ w.cell? ⟨g, 1, none⟩ = some (.int .i64 lsn) ∧ w.cell? ⟨g, 2, none⟩ = some (.int .i64 right) ∧ w.cell? ⟨g, 3, none⟩ = some (.string high) ∧
      w.cell? ⟨g, 4, none⟩ = some (.slice A4 n4 c4) ∧ w.cell? ⟨g, 5, none⟩ = some (.slice A5 n5 c5) ∧ w.cell? ⟨g, 6, none⟩ = some (.slice A6 n6 c6) := by
  refine ⟨?_, ?_, ?_, ?_, ?_, ?_, ?_⟩ <;> simp [World.cell?, hb]

def ltB (a b : ByteArray) : Bool := Op.bytesLess a.toList b.toList
def headB (n : Nd) : Bool := inB n.level 20 && inB n.lsn 1099511627776 && inB n.right 4096 && (n.high.toList.isEmpty || keyCk n.high == 0)
def prevB (keys : List ByteArray) (i : Nat) (k : ByteArray) : Bool := match i with | 0 => true | j + 1 => ltB (keys[j]?.getD k) k
def keyB (high : ByteArray) (keys : List ByteArray) (i : Nat) (k : ByteArray) : Bool := keyCk k == 0 && prevB keys i k && (high.toList.isEmpty || ltB k high)
def keysB (high : ByteArray) (keys : List ByteArray) : Bool := (List.range keys.length).all fun i => keyB high keys i (keys[i]?.getD high)
def okB (n : Nd) : Bool := headB n && partsB n && decide (wrap64 (sizeT n) ≤ 256) && keysB n.high n.keys
def okE (n : Nd) : Int := if okB n then 0 else 60

theorem all_range_succ {p : Nat → Bool} {i : Nat} : (List.range (i + 1)).all p = ((List.range i).all p && p i) := by rw [List.range_succ]; simp
theorem all_range_not {p : Nat → Bool} {i n : Nat} (h : i < n) (hp : p i = false) : (List.range n).all p = false := by
  rw [← Bool.not_eq_true, List.all_eq_true]
  intro hall
  have := hall i (List.mem_range.2 h)
  rw [hp] at this; cases this
theorem okE_yes {n : Nd} (h : okB n = true) : okE n = 0 := by unfold okE; rw [if_pos h]
theorem okE_not {n : Nd} (h : okB n = false) : okE n = 60 := by unfold okE; rw [h]; rfl

theorem okE_key {n : Nd} {i : Nat} {k : ByteArray} (hg : n.keys[i]? = some k) (h : keyB n.high n.keys i k = false) : okE n = 60 := by
  have := all_range_not (n := n.keys.length) (p := fun i => keyB n.high n.keys i (n.keys[i]?.getD n.high)) (i := i) (List.getElem?_eq_some_iff.1 hg).1 (by simpa only [hg, Option.getD_some] using h)
  exact okE_not (by simp only [okB, keysB, this, Bool.and_false])
theorem prevB_pos {keys : List ByteArray} {i : Nat} {k p : ByteArray} (h : 0 < i) (hp : keys[i - 1]? = some p) : prevB keys i k = ltB p k := by
  cases i with
  | zero => omega
  | succ j => simp only [Nat.add_sub_cancel] at hp; simp [prevB, hp]
theorem prevB_zero {keys : List ByteArray} {i : Nat} {k : ByteArray} (h : ¬ 0 < i) : prevB keys i k = true := by
  obtain rfl : i = 0 := by omega
  rfl

set_option maxRecDepth 100000 in
set_option maxHeartbeats 1000000 in
theorem check_any (n : Nd) (A4 : Option Addr) (n4 c4 : Nat) (A5 : Option Addr) (n5 c5 : Nat) (A6 : Option Addr) (n6 c6 : Nat) (w : World) (h : NdAt w n A4 n4 c4 A5 n5 c5 A6 n6 c6) :
    Calls Try.prog 25 #[ndV n A4 n4 c4 A5 n5 c5 A6 n6 c6] w fun e w' => e = .returned (.int .i64 (okE n)) ∧ Ext w w' := by
  refine hide_post fun R hR => ?_
  have H := Hd.mk h; clear h
  have l4 := Hd.mk H.out.keys.len
  obtain ⟨level, lsn, right, high, keys, vals, kids⟩ := n
  obtain ⟨x, hx⟩ : ∃ x, okE ⟨level, lsn, right, high, keys, vals, kids⟩ = x := ⟨_, rfl⟩
  obtain ⟨p, hp⟩ : ∃ p, partsB ⟨level, lsn, right, high, keys, vals, kids⟩ = p := ⟨_, rfl⟩
  obtain ⟨z, hz⟩ : ∃ z, wrap64 (sizeT ⟨level, lsn, right, high, keys, vals, kids⟩) = z := ⟨_, rfl⟩
  rw [hx] at hR
  have hx := Hd.mk hx
  have hp := Hd.mk hp
  have hz := Hd.mk hz
  simp only [ndV]
  have h4 : (n4 : Int) ≤ 140737488351232 := by have := H.out.b4; omega
  cases h1 : inB level 20 with
  | false =>
    go_enter Try.func25, Try.ntmps25
    go_wp2_with fail
    obtain ⟨W, hW, hk, hc0, hc1, hc2, hc3, hc4, hc5, hc6, hb⟩ := nd_box w level lsn right high A4 n4 c4 A5 n5 c5 A6 n6 c6
    rw [hW]
    clear hW
    go_wp2_with (first
      | (go_at_call 77; refine (in_any _ _ _).mono ?_; rintro e w' ⟨rfl, rfl⟩)
      | (go_at_call 78; refine (keyCheck_any _ _).mono ?_; rintro e w' ⟨rfl, rfl⟩)
      | (go_at_call 79; refine (parts_any _ _ _ _ _ _ _ _ _ _ _ (H.out.ext hk.out)).mono ?_; rintro e W2 ⟨rfl, hk2⟩; have hk2 := Hd.mk hk2; rw [hp.out]; have hb2 := hk2.out.blk hb id; obtain ⟨hd0, hd1, hd2, hd3, hd4, hd5, hd6⟩ := nd_facts hb2)
      | (go_at_call 27; refine (size_any _ _ _ _ _ _ _ _ _ _ _ (H.out.ext (hk.out.then' hk2.out))).mono ?_; rintro e W3 ⟨rfl, hk3⟩; have hk3 := Hd.mk hk3; rw [hz.out]; have hb3 := hk3.out.blk hb2 id; obtain ⟨he0, he1, he2, he3, he4, he5, he6⟩ := nd_facts hb3))
    refine hR.out _ _ ⟨?_, hk.out⟩
    rw [← hx.out, okE_not (n := ⟨level, lsn, right, high, keys, vals, kids⟩) (by simp [okB, headB, hz.out, hp.out, h1])] <;> rfl
  | true =>
    cases h2 : inB lsn 1099511627776 with
    | false =>
      go_enter Try.func25, Try.ntmps25
      go_wp2_with fail
      obtain ⟨W, hW, hk, hc0, hc1, hc2, hc3, hc4, hc5, hc6, hb⟩ := nd_box w level lsn right high A4 n4 c4 A5 n5 c5 A6 n6 c6
      rw [hW]
      clear hW
      go_wp2_with (first
        | (go_at_call 77; refine (in_any _ _ _).mono ?_; rintro e w' ⟨rfl, rfl⟩)
        | (go_at_call 78; refine (keyCheck_any _ _).mono ?_; rintro e w' ⟨rfl, rfl⟩)
        | (go_at_call 79; refine (parts_any _ _ _ _ _ _ _ _ _ _ _ (H.out.ext hk.out)).mono ?_; rintro e W2 ⟨rfl, hk2⟩; have hk2 := Hd.mk hk2; rw [hp.out]; have hb2 := hk2.out.blk hb id; obtain ⟨hd0, hd1, hd2, hd3, hd4, hd5, hd6⟩ := nd_facts hb2)
        | (go_at_call 27; refine (size_any _ _ _ _ _ _ _ _ _ _ _ (H.out.ext (hk.out.then' hk2.out))).mono ?_; rintro e W3 ⟨rfl, hk3⟩; have hk3 := Hd.mk hk3; rw [hz.out]; have hb3 := hk3.out.blk hb2 id; obtain ⟨he0, he1, he2, he3, he4, he5, he6⟩ := nd_facts hb3))
      refine hR.out _ _ ⟨?_, hk.out⟩
      rw [← hx.out, okE_not (n := ⟨level, lsn, right, high, keys, vals, kids⟩) (by simp [okB, headB, hz.out, hp.out, h1, h2])] <;> rfl
    | true =>
      cases h3 : inB right 4096 with
      | false =>
        go_enter Try.func25, Try.ntmps25
        go_wp2_with fail
        obtain ⟨W, hW, hk, hc0, hc1, hc2, hc3, hc4, hc5, hc6, hb⟩ := nd_box w level lsn right high A4 n4 c4 A5 n5 c5 A6 n6 c6
        rw [hW]
        clear hW
        go_wp2_with (first
          | (go_at_call 77; refine (in_any _ _ _).mono ?_; rintro e w' ⟨rfl, rfl⟩)
          | (go_at_call 78; refine (keyCheck_any _ _).mono ?_; rintro e w' ⟨rfl, rfl⟩)
          | (go_at_call 79; refine (parts_any _ _ _ _ _ _ _ _ _ _ _ (H.out.ext hk.out)).mono ?_; rintro e W2 ⟨rfl, hk2⟩; have hk2 := Hd.mk hk2; rw [hp.out]; have hb2 := hk2.out.blk hb id; obtain ⟨hd0, hd1, hd2, hd3, hd4, hd5, hd6⟩ := nd_facts hb2)
          | (go_at_call 27; refine (size_any _ _ _ _ _ _ _ _ _ _ _ (H.out.ext (hk.out.then' hk2.out))).mono ?_; rintro e W3 ⟨rfl, hk3⟩; have hk3 := Hd.mk hk3; rw [hz.out]; have hb3 := hk3.out.blk hb2 id; obtain ⟨he0, he1, he2, he3, he4, he5, he6⟩ := nd_facts hb3))
        refine hR.out _ _ ⟨?_, hk.out⟩
        rw [← hx.out, okE_not (n := ⟨level, lsn, right, high, keys, vals, kids⟩) (by simp [okB, headB, hz.out, hp.out, h1, h2, h3])] <;> rfl
      | true =>
        cases hhe : high.toList.isEmpty with
        | true =>
          cases p with
          | false =>
            go_enter Try.func25, Try.ntmps25
            go_wp2_with fail
            obtain ⟨W, hW, hk, hc0, hc1, hc2, hc3, hc4, hc5, hc6, hb⟩ := nd_box w level lsn right high A4 n4 c4 A5 n5 c5 A6 n6 c6
            rw [hW]
            clear hW
            go_wp2_with (first
              | (go_at_call 77; refine (in_any _ _ _).mono ?_; rintro e w' ⟨rfl, rfl⟩)
              | (go_at_call 78; refine (keyCheck_any _ _).mono ?_; rintro e w' ⟨rfl, rfl⟩)
              | (go_at_call 79; refine (parts_any _ _ _ _ _ _ _ _ _ _ _ (H.out.ext hk.out)).mono ?_; rintro e W2 ⟨rfl, hk2⟩; have hk2 := Hd.mk hk2; rw [hp.out]; have hb2 := hk2.out.blk hb id; obtain ⟨hd0, hd1, hd2, hd3, hd4, hd5, hd6⟩ := nd_facts hb2)
              | (go_at_call 27; refine (size_any _ _ _ _ _ _ _ _ _ _ _ (H.out.ext (hk.out.then' hk2.out))).mono ?_; rintro e W3 ⟨rfl, hk3⟩; have hk3 := Hd.mk hk3; rw [hz.out]; have hb3 := hk3.out.blk hb2 id; obtain ⟨he0, he1, he2, he3, he4, he5, he6⟩ := nd_facts hb3))
            refine hR.out _ _ ⟨?_, hk.out.then' hk2.out⟩
            rw [← hx.out, okE_not (n := ⟨level, lsn, right, high, keys, vals, kids⟩) (by simp [okB, headB, hz.out, hp.out, h1, h2, h3, hhe])] <;> rfl
          | true =>
            by_cases h6 : 256 < z
            · have h6n : decide (z ≤ 256) = false := by simp; omega
              have h6n := Hd.mk h6n
              go_enter Try.func25, Try.ntmps25
              go_wp2_with fail
              obtain ⟨W, hW, hk, hc0, hc1, hc2, hc3, hc4, hc5, hc6, hb⟩ := nd_box w level lsn right high A4 n4 c4 A5 n5 c5 A6 n6 c6
              rw [hW]
              clear hW
              go_wp2_with (first
                | (go_at_call 77; refine (in_any _ _ _).mono ?_; rintro e w' ⟨rfl, rfl⟩)
                | (go_at_call 78; refine (keyCheck_any _ _).mono ?_; rintro e w' ⟨rfl, rfl⟩)
                | (go_at_call 79; refine (parts_any _ _ _ _ _ _ _ _ _ _ _ (H.out.ext hk.out)).mono ?_; rintro e W2 ⟨rfl, hk2⟩; have hk2 := Hd.mk hk2; rw [hp.out]; have hb2 := hk2.out.blk hb id; obtain ⟨hd0, hd1, hd2, hd3, hd4, hd5, hd6⟩ := nd_facts hb2)
                | (go_at_call 27; refine (size_any _ _ _ _ _ _ _ _ _ _ _ (H.out.ext (hk.out.then' hk2.out))).mono ?_; rintro e W3 ⟨rfl, hk3⟩; have hk3 := Hd.mk hk3; rw [hz.out]; have hb3 := hk3.out.blk hb2 id; obtain ⟨he0, he1, he2, he3, he4, he5, he6⟩ := nd_facts hb3))
              refine hR.out _ _ ⟨?_, (hk.out.then' hk2.out).then' hk3.out⟩
              rw [← hx.out, okE_not (n := ⟨level, lsn, right, high, keys, vals, kids⟩) (by simp [okB, headB, hz.out, hp.out, h1, h2, h3, hhe, h6n.out])] <;> rfl
            · have h6n : decide (z ≤ 256) = true := by simp; omega
              have h6n := Hd.mk h6n
              go_enter Try.func25, Try.ntmps25
              go_wp2_with fail
              obtain ⟨W, hW, hk, hc0, hc1, hc2, hc3, hc4, hc5, hc6, hb⟩ := nd_box w level lsn right high A4 n4 c4 A5 n5 c5 A6 n6 c6
              rw [hW]
              clear hW
              go_wp2_with (first
                | (go_at_call 77; refine (in_any _ _ _).mono ?_; rintro e w' ⟨rfl, rfl⟩)
                | (go_at_call 78; refine (keyCheck_any _ _).mono ?_; rintro e w' ⟨rfl, rfl⟩)
                | (go_at_call 79; refine (parts_any _ _ _ _ _ _ _ _ _ _ _ (H.out.ext hk.out)).mono ?_; rintro e W2 ⟨rfl, hk2⟩; have hk2 := Hd.mk hk2; rw [hp.out]; have hb2 := hk2.out.blk hb id; obtain ⟨hd0, hd1, hd2, hd3, hd4, hd5, hd6⟩ := nd_facts hb2)
                | (go_at_call 27; refine (size_any _ _ _ _ _ _ _ _ _ _ _ (H.out.ext (hk.out.then' hk2.out))).mono ?_; rintro e W3 ⟨rfl, hk3⟩; have hk3 := Hd.mk hk3; rw [hz.out]; have hb3 := hk3.out.blk hb2 id; obtain ⟨he0, he1, he2, he3, he4, he5, he6⟩ := nd_facts hb3))
              have hK := Hd.mk ((hk.out.then' hk2.out).then' hk3.out)
              clear hc0 hc1 hc2 hc3 hc4 hc5 hc6 hd0 hd1 hd2 hd3 hd4 hd5 hd6 hb hb2 he0 he1 he2 he5 he6
              go_loopg [45] n4 (fun k' v45 wr => ∃ i : Nat, Hd (i ≤ n4 ∧ k' = n4 - i) ∧ v45 = .int .i64 i ∧ Hd ((List.range i).all (fun i => keyB high keys i (keys[i]?.getD high)) = true) ∧ W3 = wr)
              case atStart => exact ⟨0, ⟨by omega⟩, rfl, ⟨by simp⟩, rfl⟩
              case round =>
                obtain ⟨i, hi, rfl, hany, rfl⟩ := hrel
                by_cases hlt : (i : Int) < n4
                · have hg : keys[i]? = some (keys[i]'(by have := l4.out; (try simp only at this); omega)) := List.getElem?_eq_getElem _
                  obtain ⟨ad, rfl, hcell0⟩ := (H.out.ext hK.out).keys.at_ (sz := 1) (fun _ => rfl) i _ hg
                  have hcell := hcell0 0 _ rfl
                  simp only [Nat.mul_one, Nat.add_zero] at hcell
                  clear hcell0
                  have hg := Hd.mk hg
                  generalize keys[i]'_ = k at hg hcell
                  cases hq : (keyCk k != 0) with
                  | true =>
                    go_wp2_with (go_at_call 78; refine (keyCheck_any _ _).mono ?_; rintro e w' ⟨rfl, rfl⟩)
                    have hq0 : Hd ((keyCk k == 0) = false) := ⟨by simpa using hq⟩
                    refine hR.out _ _ ⟨?_, (hk.out.then' hk2.out).then' hk3.out⟩
                    rw [← hx.out, okE_key (n := ⟨level, lsn, right, high, keys, vals, kids⟩) hg.out (by simp only [keyB, hq0.out, Bool.false_and])] <;> rfl
                  | false =>
                    have hq' : (keyCk k == 0) = true := by simpa using hq
                    have hq' := Hd.mk hq'
                    by_cases hi0 : 0 < (i : Int)
                    · have hi0d : decide (0 < (i : Int)) = true := by simpa using hi0
                      obtain ⟨m, hm⟩ : ∃ m, i - 1 = m := ⟨_, rfl⟩
                      have hmi : m + 1 = i := by omega
                      have hgp : keys[m]? = some (keys[m]'(by have := (List.getElem?_eq_some_iff.1 hg.out).1; omega)) := List.getElem?_eq_getElem _
                      obtain ⟨ad', e', hcell0⟩ := (H.out.ext hK.out).keys.at_ (sz := 1) (fun _ => rfl) m _ hgp
                      obtain rfl := Option.some.inj e'
                      have hcellp := hcell0 0 _ rfl
                      simp only [Nat.mul_one, Nat.add_zero] at hcellp
                      clear hcell0
                      have hgp := Hd.mk hgp
                      generalize keys[m]'_ = kp at hgp hcellp
                      have hwm : IntKind.i64.wrap ((i : Int) - 1) = (m : Int) := by rw [IntKind.wrap_i64]; omega
                      have hwl : (m : Int) < (n4 : Int) := by omega
                      have hwz : (0 : Int) ≤ (m : Int) := by omega
                      have hpp : Hd (prevB keys i k = ltB kp k) := ⟨prevB_pos (by omega) (by rw [hm]; exact hgp.out)⟩
                      cases hpv : Op.bytesLess kp.toList k.toList with
                      | false =>
                        have hpf : Hd (prevB keys i k = false) := ⟨hpp.out.trans hpv⟩
                        go_wp2_with (go_at_call 78; refine (keyCheck_any _ _).mono ?_; rintro e w' ⟨rfl, rfl⟩)
                        refine hR.out _ _ ⟨?_, (hk.out.then' hk2.out).then' hk3.out⟩
                        rw [← hx.out, okE_key (n := ⟨level, lsn, right, high, keys, vals, kids⟩) hg.out (by simp only [keyB, hpf.out, Bool.and_false, Bool.false_and])] <;> rfl
                      | true =>
                        have hpf : Hd (prevB keys i k = true) := ⟨hpp.out.trans hpv⟩
                        go_wp2_with (go_at_call 78; refine (keyCheck_any _ _).mono ?_; rintro e w' ⟨rfl, rfl⟩)
                        go_roundg (n4 - (i + 1))
                        case measure => have := hi.out; omega
                        case rel => exact ⟨i + 1, ⟨by have := hi.out; omega⟩, by go_num, ⟨by rw [all_range_succ, hany.out]; simp only [hg.out, Option.getD_some, keyB, hq'.out, hpf.out, hhe, Bool.and_true, Bool.true_or]⟩, rfl⟩
                    · have hi0d : decide (0 < (i : Int)) = false := by simpa using hi0
                      have hpf : Hd (prevB keys i k = true) := ⟨prevB_zero (by omega)⟩
                      go_wp2_with (go_at_call 78; refine (keyCheck_any _ _).mono ?_; rintro e w' ⟨rfl, rfl⟩)
                      go_roundg (n4 - (i + 1))
                      case measure => have := hi.out; omega
                      case rel => exact ⟨i + 1, ⟨by have := hi.out; omega⟩, by go_num, ⟨by rw [all_range_succ, hany.out]; simp only [hg.out, Option.getD_some, keyB, hq'.out, hpf.out, hhe, Bool.and_true, Bool.true_or]⟩, rfl⟩
                · have he : Hd (keysB high keys = true) := ⟨by have h := hany.out; unfold keysB; rw [show keys.length = i by have := l4.out; (try simp only at this); have := hi.out; omega]; exact h⟩
                  go_wp2
                  refine hR.out _ _ ⟨?_, hK.out⟩
                  rw [← hx.out, okE_yes (n := ⟨level, lsn, right, high, keys, vals, kids⟩) (by simp only [okB, headB, hz.out, hp.out, he.out, h1, h2, h3, hhe, h6n.out, Bool.and_true, Bool.true_or])] <;> rfl
        | false =>
          cases hhk : (keyCk high != 0) with
          | true =>
            have hhk0 : Hd ((keyCk high == 0) = false) := ⟨by simpa using hhk⟩
            go_enter Try.func25, Try.ntmps25
            go_wp2_with fail
            obtain ⟨W, hW, hk, hc0, hc1, hc2, hc3, hc4, hc5, hc6, hb⟩ := nd_box w level lsn right high A4 n4 c4 A5 n5 c5 A6 n6 c6
            rw [hW]
            clear hW
            go_wp2_with (first
              | (go_at_call 77; refine (in_any _ _ _).mono ?_; rintro e w' ⟨rfl, rfl⟩)
              | (go_at_call 78; refine (keyCheck_any _ _).mono ?_; rintro e w' ⟨rfl, rfl⟩)
              | (go_at_call 79; refine (parts_any _ _ _ _ _ _ _ _ _ _ _ (H.out.ext hk.out)).mono ?_; rintro e W2 ⟨rfl, hk2⟩; have hk2 := Hd.mk hk2; rw [hp.out]; have hb2 := hk2.out.blk hb id; obtain ⟨hd0, hd1, hd2, hd3, hd4, hd5, hd6⟩ := nd_facts hb2)
              | (go_at_call 27; refine (size_any _ _ _ _ _ _ _ _ _ _ _ (H.out.ext (hk.out.then' hk2.out))).mono ?_; rintro e W3 ⟨rfl, hk3⟩; have hk3 := Hd.mk hk3; rw [hz.out]; have hb3 := hk3.out.blk hb2 id; obtain ⟨he0, he1, he2, he3, he4, he5, he6⟩ := nd_facts hb3))
            refine hR.out _ _ ⟨?_, hk.out⟩
            rw [← hx.out, okE_not (n := ⟨level, lsn, right, high, keys, vals, kids⟩) (by simp [okB, headB, hz.out, hp.out, h1, h2, h3, hhe, hhk0.out])] <;> rfl
          | false =>
            have hhk0 : Hd ((keyCk high == 0) = true) := ⟨by simpa using hhk⟩
            cases p with
            | false =>
              go_enter Try.func25, Try.ntmps25
              go_wp2_with fail
              obtain ⟨W, hW, hk, hc0, hc1, hc2, hc3, hc4, hc5, hc6, hb⟩ := nd_box w level lsn right high A4 n4 c4 A5 n5 c5 A6 n6 c6
              rw [hW]
              clear hW
              go_wp2_with (first
                | (go_at_call 77; refine (in_any _ _ _).mono ?_; rintro e w' ⟨rfl, rfl⟩)
                | (go_at_call 78; refine (keyCheck_any _ _).mono ?_; rintro e w' ⟨rfl, rfl⟩)
                | (go_at_call 79; refine (parts_any _ _ _ _ _ _ _ _ _ _ _ (H.out.ext hk.out)).mono ?_; rintro e W2 ⟨rfl, hk2⟩; have hk2 := Hd.mk hk2; rw [hp.out]; have hb2 := hk2.out.blk hb id; obtain ⟨hd0, hd1, hd2, hd3, hd4, hd5, hd6⟩ := nd_facts hb2)
                | (go_at_call 27; refine (size_any _ _ _ _ _ _ _ _ _ _ _ (H.out.ext (hk.out.then' hk2.out))).mono ?_; rintro e W3 ⟨rfl, hk3⟩; have hk3 := Hd.mk hk3; rw [hz.out]; have hb3 := hk3.out.blk hb2 id; obtain ⟨he0, he1, he2, he3, he4, he5, he6⟩ := nd_facts hb3))
              refine hR.out _ _ ⟨?_, hk.out.then' hk2.out⟩
              rw [← hx.out, okE_not (n := ⟨level, lsn, right, high, keys, vals, kids⟩) (by simp [okB, headB, hz.out, hp.out, h1, h2, h3, hhe, hhk0.out])] <;> rfl
            | true =>
              by_cases h6 : 256 < z
              · have h6n : decide (z ≤ 256) = false := by simp; omega
                have h6n := Hd.mk h6n
                go_enter Try.func25, Try.ntmps25
                go_wp2_with fail
                obtain ⟨W, hW, hk, hc0, hc1, hc2, hc3, hc4, hc5, hc6, hb⟩ := nd_box w level lsn right high A4 n4 c4 A5 n5 c5 A6 n6 c6
                rw [hW]
                clear hW
                go_wp2_with (first
                  | (go_at_call 77; refine (in_any _ _ _).mono ?_; rintro e w' ⟨rfl, rfl⟩)
                  | (go_at_call 78; refine (keyCheck_any _ _).mono ?_; rintro e w' ⟨rfl, rfl⟩)
                  | (go_at_call 79; refine (parts_any _ _ _ _ _ _ _ _ _ _ _ (H.out.ext hk.out)).mono ?_; rintro e W2 ⟨rfl, hk2⟩; have hk2 := Hd.mk hk2; rw [hp.out]; have hb2 := hk2.out.blk hb id; obtain ⟨hd0, hd1, hd2, hd3, hd4, hd5, hd6⟩ := nd_facts hb2)
                  | (go_at_call 27; refine (size_any _ _ _ _ _ _ _ _ _ _ _ (H.out.ext (hk.out.then' hk2.out))).mono ?_; rintro e W3 ⟨rfl, hk3⟩; have hk3 := Hd.mk hk3; rw [hz.out]; have hb3 := hk3.out.blk hb2 id; obtain ⟨he0, he1, he2, he3, he4, he5, he6⟩ := nd_facts hb3))
                refine hR.out _ _ ⟨?_, (hk.out.then' hk2.out).then' hk3.out⟩
                rw [← hx.out, okE_not (n := ⟨level, lsn, right, high, keys, vals, kids⟩) (by simp [okB, headB, hz.out, hp.out, h1, h2, h3, hhe, hhk0.out, h6n.out])] <;> rfl
              · have h6n : decide (z ≤ 256) = true := by simp; omega
                have h6n := Hd.mk h6n
                go_enter Try.func25, Try.ntmps25
                go_wp2_with fail
                obtain ⟨W, hW, hk, hc0, hc1, hc2, hc3, hc4, hc5, hc6, hb⟩ := nd_box w level lsn right high A4 n4 c4 A5 n5 c5 A6 n6 c6
                rw [hW]
                clear hW
                go_wp2_with (first
                  | (go_at_call 77; refine (in_any _ _ _).mono ?_; rintro e w' ⟨rfl, rfl⟩)
                  | (go_at_call 78; refine (keyCheck_any _ _).mono ?_; rintro e w' ⟨rfl, rfl⟩)
                  | (go_at_call 79; refine (parts_any _ _ _ _ _ _ _ _ _ _ _ (H.out.ext hk.out)).mono ?_; rintro e W2 ⟨rfl, hk2⟩; have hk2 := Hd.mk hk2; rw [hp.out]; have hb2 := hk2.out.blk hb id; obtain ⟨hd0, hd1, hd2, hd3, hd4, hd5, hd6⟩ := nd_facts hb2)
                  | (go_at_call 27; refine (size_any _ _ _ _ _ _ _ _ _ _ _ (H.out.ext (hk.out.then' hk2.out))).mono ?_; rintro e W3 ⟨rfl, hk3⟩; have hk3 := Hd.mk hk3; rw [hz.out]; have hb3 := hk3.out.blk hb2 id; obtain ⟨he0, he1, he2, he3, he4, he5, he6⟩ := nd_facts hb3))
                have hK := Hd.mk ((hk.out.then' hk2.out).then' hk3.out)
                clear hc0 hc1 hc2 hc3 hc4 hc5 hc6 hd0 hd1 hd2 hd3 hd4 hd5 hd6 hb hb2 he0 he1 he2 he5 he6
                go_loopg [45] n4 (fun k' v45 wr => ∃ i : Nat, Hd (i ≤ n4 ∧ k' = n4 - i) ∧ v45 = .int .i64 i ∧ Hd ((List.range i).all (fun i => keyB high keys i (keys[i]?.getD high)) = true) ∧ W3 = wr)
                case atStart => exact ⟨0, ⟨by omega⟩, rfl, ⟨by simp⟩, rfl⟩
                case round =>
                  obtain ⟨i, hi, rfl, hany, rfl⟩ := hrel
                  by_cases hlt : (i : Int) < n4
                  · have hg : keys[i]? = some (keys[i]'(by have := l4.out; (try simp only at this); omega)) := List.getElem?_eq_getElem _
                    obtain ⟨ad, rfl, hcell0⟩ := (H.out.ext hK.out).keys.at_ (sz := 1) (fun _ => rfl) i _ hg
                    have hcell := hcell0 0 _ rfl
                    simp only [Nat.mul_one, Nat.add_zero] at hcell
                    clear hcell0
                    have hg := Hd.mk hg
                    generalize keys[i]'_ = k at hg hcell
                    cases hq : (keyCk k != 0) with
                    | true =>
                      go_wp2_with (go_at_call 78; refine (keyCheck_any _ _).mono ?_; rintro e w' ⟨rfl, rfl⟩)
                      have hq0 : Hd ((keyCk k == 0) = false) := ⟨by simpa using hq⟩
                      refine hR.out _ _ ⟨?_, (hk.out.then' hk2.out).then' hk3.out⟩
                      rw [← hx.out, okE_key (n := ⟨level, lsn, right, high, keys, vals, kids⟩) hg.out (by simp only [keyB, hq0.out, Bool.false_and])] <;> rfl
                    | false =>
                      have hq' : (keyCk k == 0) = true := by simpa using hq
                      have hq' := Hd.mk hq'
                      by_cases hi0 : 0 < (i : Int)
                      · have hi0d : decide (0 < (i : Int)) = true := by simpa using hi0
                        obtain ⟨m, hm⟩ : ∃ m, i - 1 = m := ⟨_, rfl⟩
                        have hmi : m + 1 = i := by omega
                        have hgp : keys[m]? = some (keys[m]'(by have := (List.getElem?_eq_some_iff.1 hg.out).1; omega)) := List.getElem?_eq_getElem _
                        obtain ⟨ad', e', hcell0⟩ := (H.out.ext hK.out).keys.at_ (sz := 1) (fun _ => rfl) m _ hgp
                        obtain rfl := Option.some.inj e'
                        have hcellp := hcell0 0 _ rfl
                        simp only [Nat.mul_one, Nat.add_zero] at hcellp
                        clear hcell0
                        have hgp := Hd.mk hgp
                        generalize keys[m]'_ = kp at hgp hcellp
                        have hwm : IntKind.i64.wrap ((i : Int) - 1) = (m : Int) := by rw [IntKind.wrap_i64]; omega
                        have hwl : (m : Int) < (n4 : Int) := by omega
                        have hwz : (0 : Int) ≤ (m : Int) := by omega
                        have hpp : Hd (prevB keys i k = ltB kp k) := ⟨prevB_pos (by omega) (by rw [hm]; exact hgp.out)⟩
                        cases hpv : Op.bytesLess kp.toList k.toList with
                        | false =>
                          have hpf : Hd (prevB keys i k = false) := ⟨hpp.out.trans hpv⟩
                          go_wp2_with (go_at_call 78; refine (keyCheck_any _ _).mono ?_; rintro e w' ⟨rfl, rfl⟩)
                          refine hR.out _ _ ⟨?_, (hk.out.then' hk2.out).then' hk3.out⟩
                          rw [← hx.out, okE_key (n := ⟨level, lsn, right, high, keys, vals, kids⟩) hg.out (by simp only [keyB, hpf.out, Bool.and_false, Bool.false_and])] <;> rfl
                        | true =>
                          have hpf : Hd (prevB keys i k = true) := ⟨hpp.out.trans hpv⟩
                          cases hlh : Op.bytesLess k.toList high.toList with
                          | false =>
                            have hlh' : Hd (ltB k high = false) := ⟨hlh⟩
                            go_wp2_with (go_at_call 78; refine (keyCheck_any _ _).mono ?_; rintro e w' ⟨rfl, rfl⟩)
                            refine hR.out _ _ ⟨?_, (hk.out.then' hk2.out).then' hk3.out⟩
                            rw [← hx.out, okE_key (n := ⟨level, lsn, right, high, keys, vals, kids⟩) hg.out (by simp only [keyB, hlh'.out, hhe, Bool.or_false, Bool.and_false])] <;> rfl
                          | true =>
                            have hlh' : Hd (ltB k high = true) := ⟨hlh⟩
                            go_wp2_with (go_at_call 78; refine (keyCheck_any _ _).mono ?_; rintro e w' ⟨rfl, rfl⟩)
                            go_roundg (n4 - (i + 1))
                            case measure => have := hi.out; omega
                            case rel => exact ⟨i + 1, ⟨by have := hi.out; omega⟩, by go_num, ⟨by rw [all_range_succ, hany.out]; simp only [hg.out, Option.getD_some, keyB, hq'.out, hpf.out, hlh'.out, Bool.and_true, Bool.or_true]⟩, rfl⟩
                      · have hi0d : decide (0 < (i : Int)) = false := by simpa using hi0
                        have hpf : Hd (prevB keys i k = true) := ⟨prevB_zero (by omega)⟩
                        cases hlh : Op.bytesLess k.toList high.toList with
                        | false =>
                          have hlh' : Hd (ltB k high = false) := ⟨hlh⟩
                          go_wp2_with (go_at_call 78; refine (keyCheck_any _ _).mono ?_; rintro e w' ⟨rfl, rfl⟩)
                          refine hR.out _ _ ⟨?_, (hk.out.then' hk2.out).then' hk3.out⟩
                          rw [← hx.out, okE_key (n := ⟨level, lsn, right, high, keys, vals, kids⟩) hg.out (by simp only [keyB, hlh'.out, hhe, Bool.or_false, Bool.and_false])] <;> rfl
                        | true =>
                          have hlh' : Hd (ltB k high = true) := ⟨hlh⟩
                          go_wp2_with (go_at_call 78; refine (keyCheck_any _ _).mono ?_; rintro e w' ⟨rfl, rfl⟩)
                          go_roundg (n4 - (i + 1))
                          case measure => have := hi.out; omega
                          case rel => exact ⟨i + 1, ⟨by have := hi.out; omega⟩, by go_num, ⟨by rw [all_range_succ, hany.out]; simp only [hg.out, Option.getD_some, keyB, hq'.out, hpf.out, hlh'.out, Bool.and_true, Bool.or_true]⟩, rfl⟩
                  · have he : Hd (keysB high keys = true) := ⟨by have h := hany.out; unfold keysB; rw [show keys.length = i by have := l4.out; (try simp only at this); have := hi.out; omega]; exact h⟩
                    go_wp2
                    refine hR.out _ _ ⟨?_, hK.out⟩
                    rw [← hx.out, okE_yes (n := ⟨level, lsn, right, high, keys, vals, kids⟩) (by simp only [okB, headB, hz.out, hp.out, he.out, h1, h2, h3, hhe, hhk0.out, h6n.out, Bool.and_true, Bool.or_true])] <;> rfl
end Go.Proofs.Ythpfkdaijiaalaa
