/- Nodes: what they are; how large. -/
import Derived.Test.YthpfkdaijiaalaaK
namespace Go.Proofs.Ythpfkdaijiaalaa
open Go.RowKit

structure Nd where
  level : Int
  lsn : Int
  right : Int
  high : ByteArray
  keys : List ByteArray
  vals : List ByteArray
  kids : List Int

/-- A node's lists as they are read. -/
structure NdAt (w : World) (n : Nd) (A4 : Option Addr) (n4 c4 : Nat) (A5 : Option Addr) (n5 c5 : Nat) (A6 : Option Addr) (n6 c6 : Nat) : Prop where
  keys : SlAt encS w A4 n4 c4 n.keys
  vals : SlAt encS w A5 n5 c5 n.vals
  kids : SlAt encI w A6 n6 c6 n.kids
  b4 : n4 ≤ 140737488351232
  b5 : n5 ≤ 140737488351232
  b6 : n6 ≤ 140737488351232
  bh : n.high.size ≤ 140737488351232
  bk : ∀ k, k ∈ n.keys → k.size ≤ 140737488351232
  bv : ∀ k, k ∈ n.vals → k.size ≤ 140737488351232
abbrev ndV (n : Nd) (A4 : Option Addr) (n4 c4 : Nat) (A5 : Option Addr) (n5 c5 : Nat) (A6 : Option Addr) (n6 c6 : Nat) : Value :=
  .agg #[.int .i64 n.level, .int .i64 n.lsn, .int .i64 n.right, .string n.high, .slice A4 n4 c4, .slice A5 n5 c5, .slice A6 n6 c6]
abbrev ndC (n : Nd) (A4 : Option Addr) (n4 c4 : Nat) (A5 : Option Addr) (n5 c5 : Nat) (A6 : Option Addr) (n6 c6 : Nat) : Array Value :=
  #[.int .i64 n.level, .int .i64 n.lsn, .int .i64 n.right, .string n.high, .slice A4 n4 c4, .slice A5 n5 c5, .slice A6 n6 c6]
section
variable {w w' : World} {n : Nd} {A4 : Option Addr} {n4 c4 : Nat} {A5 : Option Addr} {n5 c5 : Nat} {A6 : Option Addr} {n6 c6 : Nat}
theorem NdAt.ext (h : NdAt w n A4 n4 c4 A5 n5 c5 A6 n6 c6) (k : Ext w w') : NdAt w' n A4 n4 c4 A5 n5 c5 A6 n6 c6 :=
  ⟨h.keys.ext k, h.vals.ext k, h.kids.ext k, h.b4, h.b5, h.b6, h.bh, h.bk, h.bv⟩
end

def sumS (l : List ByteArray) : Int := (l.map fun k => 2 + (k.size : Int)).sum
theorem sumS_snoc (l : List ByteArray) (k : ByteArray) : sumS (l ++ [k]) = sumS l + (2 + (k.size : Int)) := by simp [sumS, List.sum_append]
def sizeT (n : Nd) : Int := 21 + (n.high.size : Int) + sumS n.keys + (if n.level = 0 then sumS n.vals else 4 * (n.kids.length : Int))

theorem wrap_add (a b : Int) : wrap64 (wrap64 a + b) = wrap64 (a + b) := by unfold wrap64; omega
theorem wrap_add2 (a b c : Int) : wrap64 (wrap64 (wrap64 a + b) + c) = wrap64 (a + (b + c)) := by unfold wrap64; omega
theorem take_snoc_get {α : Type} {xs : List α} {i : Nat} {x : α} (h : xs[i]? = some x) : xs.take (i + 1) = xs.take i ++ [x] := by rw [List.take_add_one, h]; rfl

set_option maxRecDepth 100000 in
theorem size_any (n : Nd) (A4 : Option Addr) (n4 c4 : Nat) (A5 : Option Addr) (n5 c5 : Nat) (A6 : Option Addr) (n6 c6 : Nat) (w : World) (h : NdAt w n A4 n4 c4 A5 n5 c5 A6 n6 c6) :
    Calls Try.prog 27 #[ndV n A4 n4 c4 A5 n5 c5 A6 n6 c6] w fun e w' => e = .returned (.int .i64 (wrap64 (sizeT n))) ∧ Ext w w' := by
  refine hide_post fun R hR => ?_
  have H := Hd.mk h; clear h
  obtain ⟨level, lsn, right, high, keys, vals, kids⟩ := n
  simp only [ndV]
  have h4 : (n4 : Int) ≤ 140737488351232 := by have := H.out.b4; omega
  have h5 : (n5 : Int) ≤ 140737488351232 := by have := H.out.b5; omega
  have h6 : (n6 : Int) ≤ 140737488351232 := by have := H.out.b6; omega
  have hh : (high.size : Int) ≤ 140737488351232 := by have := H.out.bh; simp only at this; omega
  go_enter Try.func27, Try.ntmps27
  go_wp2
  obtain ⟨W, hW⟩ : ∃ W, w.alloc (.cells #[.int .i64 level, .int .i64 lsn, .int .i64 right, .string high, .slice A4 n4 c4, .slice A5 n5 c5, .slice A6 n6 c6] 25) = W := ⟨_, rfl⟩
  rw [hW]
  have hk : Hd (Ext w W) := ⟨by rw [← hW]; exact (ext_refl w).alloc _⟩
  have hb : W.heap[w.heap.size]? = some (.cells #[.int .i64 level, .int .i64 lsn, .int .i64 right, .string high, .slice A4 n4 c4, .slice A5 n5 c5, .slice A6 n6 c6] 25 (0, 0)) := by rw [← hW]; exact heap_alloc_new w _
  have hc0 : W.cell? ⟨w.heap.size, 0, none⟩ = some (.int .i64 level) := by simp [World.cell?, hb]
  have hc5 : W.cell? ⟨w.heap.size, 5, none⟩ = some (.slice A5 n5 c5) := by simp [World.cell?, hb]
  have hc6 : W.cell? ⟨w.heap.size, 6, none⟩ = some (.slice A6 n6 c6) := by simp [World.cell?, hb]
  clear hb hW
  go_loopg [3, 16] n4 (fun k' v3 v16 wr => ∃ (i : Nat) (x : Int), Hd (i ≤ n4 ∧ k' = n4 - i) ∧ v16 = .int .i64 i ∧ v3 = .int .i64 x ∧ Hd (x = wrap64 (21 + (high.size : Int) + sumS (keys.take i))) ∧ W = wr)
  case atStart => exact ⟨0, _, ⟨by omega⟩, rfl, rfl, ⟨by simp [sumS]; unfold wrap64; omega⟩, rfl⟩
  case round =>
    obtain ⟨i, x, hi, rfl, rfl, hx, rfl⟩ := hrel
    by_cases hlt : (i : Int) < n4
    · have hg : keys[i]? = some (keys[i]'(by have := H.out.keys.len; simp only at this; omega)) := List.getElem?_eq_getElem _
      obtain ⟨ad, rfl, hcell⟩ := (H.out.ext hk.out).keys.at_ (sz := 1) (fun _ => rfl) i _ hg
      have hcell := hcell 0 _ rfl
      simp only [Nat.mul_one, Nat.add_zero] at hcell
      have hkb := H.out.bk _ (List.mem_of_getElem? hg)
      have hg := Hd.mk hg
      generalize keys[i]'_ = k at hg hcell hkb
      have hkb : (k.size : Int) ≤ 140737488351232 := by omega
      go_wp2
      go_roundg (n4 - (i + 1))
      case measure => have := hi.out; omega
      case rel => exact ⟨i + 1, _, ⟨by have := hi.out; omega⟩, by go_num, rfl, ⟨by rw [take_snoc_get hg.out, sumS_snoc, hx.out, wrap_add]; congr 1; omega⟩, rfl⟩
    · have hie : Hd (x = wrap64 (21 + (high.size : Int) + sumS keys)) := ⟨by rw [hx.out, List.take_of_length_le (by have := H.out.keys.len; simp only at this; have := hi.out; omega)]⟩
      by_cases hl : level = 0
      · have hl0 : (level == 0) = true := by simp [hl]
        have hl1 : (level != 0) = false := by simp [hl]
        have hl := Hd.mk hl
        go_wp2
        go_loopg [3, 38] n5 (fun k' v3 v38 wr => ∃ (i : Nat) (x : Int), Hd (i ≤ n5 ∧ k' = n5 - i) ∧ v38 = .int .i64 i ∧ v3 = .int .i64 x ∧ Hd (x = wrap64 (21 + (high.size : Int) + sumS keys + sumS (vals.take i))) ∧ W = wr)
        case atStart => exact ⟨0, _, ⟨by omega⟩, rfl, rfl, ⟨by rw [hie.out]; simp [sumS]⟩, rfl⟩
        case round =>
          obtain ⟨j, y, hj, rfl, rfl, hy, rfl⟩ := hrel
          by_cases hlt2 : (j : Int) < n5
          · have hg : vals[j]? = some (vals[j]'(by have := H.out.vals.len; simp only at this; omega)) := List.getElem?_eq_getElem _
            obtain ⟨ad, rfl, hcell⟩ := (H.out.ext hk.out).vals.at_ (sz := 1) (fun _ => rfl) j _ hg
            have hcell := hcell 0 _ rfl
            simp only [Nat.mul_one, Nat.add_zero] at hcell
            have hkb := H.out.bv _ (List.mem_of_getElem? hg)
            have hg := Hd.mk hg
            generalize vals[j]'_ = k at hg hcell hkb
            have hkb : (k.size : Int) ≤ 140737488351232 := by omega
            go_wp2
            go_roundg (n5 - (j + 1))
            case measure => have := hj.out; omega
            case rel => exact ⟨j + 1, _, ⟨by have := hj.out; omega⟩, by go_num, rfl, ⟨by rw [take_snoc_get hg.out, sumS_snoc, hy.out, wrap_add]; congr 1; omega⟩, rfl⟩
          · have hje : Hd (y = wrap64 (sizeT ⟨level, lsn, right, high, keys, vals, kids⟩)) := ⟨by
              rw [hy.out, List.take_of_length_le (by have := H.out.vals.len; simp only at this; have := hj.out; omega)]
              simp only [sizeT]; rw [if_pos hl.out]⟩
            go_wp2
            exact hR.out _ _ ⟨by rw [← hje.out], hk.out⟩
      · have hl0 : (level == 0) = false := by simp [hl]
        have hl1 : (level != 0) = true := by simp [hl]
        have hl := Hd.mk hl
        go_wp2
        refine hR.out _ _ ⟨?_, hk.out⟩
        have e : wrap64 (x + 4 * (n6 : Int)) = wrap64 (sizeT ⟨level, lsn, right, high, keys, vals, kids⟩) := by
          have hl6 := H.out.kids.len
          simp only at hl6
          rw [hie.out, wrap_add]; simp only [sizeT]; rw [if_neg hl.out, hl6]
        rw [e]
set_option maxRecDepth 100000 in
theorem refsize_any (n : Nd) (A4 : Option Addr) (n4 c4 : Nat) (A5 : Option Addr) (n5 c5 : Nat) (A6 : Option Addr) (n6 c6 : Nat) (w : World) (h : NdAt w n A4 n4 c4 A5 n5 c5 A6 n6 c6) :
    Calls Try.prog 28 #[ndV n A4 n4 c4 A5 n5 c5 A6 n6 c6] w fun e w' => e = .returned (.int .i64 (wrap64 (sizeT n))) ∧ Ext w w' := by
  refine hide_post fun R hR => ?_
  have H := Hd.mk h; clear h
  obtain ⟨level, lsn, right, high, keys, vals, kids⟩ := n
  simp only [ndV]
  have h4 : (n4 : Int) ≤ 140737488351232 := by have := H.out.b4; omega
  have h5 : (n5 : Int) ≤ 140737488351232 := by have := H.out.b5; omega
  have h6 : (n6 : Int) ≤ 140737488351232 := by have := H.out.b6; omega
  have hh : (high.size : Int) ≤ 140737488351232 := by have := H.out.bh; simp only at this; omega
  go_enter Try.func28, Try.ntmps28
  go_wp2
  obtain ⟨W, hW⟩ : ∃ W, w.alloc (.cells #[.int .i64 level, .int .i64 lsn, .int .i64 right, .string high, .slice A4 n4 c4, .slice A5 n5 c5, .slice A6 n6 c6] 25) = W := ⟨_, rfl⟩
  rw [hW]
  have hk : Hd (Ext w W) := ⟨by rw [← hW]; exact (ext_refl w).alloc _⟩
  have hb : W.heap[w.heap.size]? = some (.cells #[.int .i64 level, .int .i64 lsn, .int .i64 right, .string high, .slice A4 n4 c4, .slice A5 n5 c5, .slice A6 n6 c6] 25 (0, 0)) := by rw [← hW]; exact heap_alloc_new w _
  have hc0 : W.cell? ⟨w.heap.size, 0, none⟩ = some (.int .i64 level) := by simp [World.cell?, hb]
  have hc5 : W.cell? ⟨w.heap.size, 5, none⟩ = some (.slice A5 n5 c5) := by simp [World.cell?, hb]
  have hc6 : W.cell? ⟨w.heap.size, 6, none⟩ = some (.slice A6 n6 c6) := by simp [World.cell?, hb]
  clear hb hW
  go_loopg [3, 15] n4 (fun k' v3 v15 wr => ∃ (i : Nat) (x : Int), Hd (i ≤ n4 ∧ k' = n4 - i) ∧ v15 = .int .i64 i ∧ v3 = .int .i64 x ∧ Hd (x = wrap64 (21 + (high.size : Int) + sumS (keys.take i))) ∧ W = wr)
  case atStart => exact ⟨0, _, ⟨by omega⟩, rfl, rfl, ⟨by simp [sumS]; unfold wrap64; omega⟩, rfl⟩
  case round =>
    obtain ⟨i, x, hi, rfl, rfl, hx, rfl⟩ := hrel
    by_cases hlt : (i : Int) < n4
    · have hg : keys[i]? = some (keys[i]'(by have := H.out.keys.len; simp only at this; omega)) := List.getElem?_eq_getElem _
      obtain ⟨ad, rfl, hcell⟩ := (H.out.ext hk.out).keys.at_ (sz := 1) (fun _ => rfl) i _ hg
      have hcell := hcell 0 _ rfl
      simp only [Nat.mul_one, Nat.add_zero] at hcell
      have hkb := H.out.bk _ (List.mem_of_getElem? hg)
      have hg := Hd.mk hg
      generalize keys[i]'_ = k at hg hcell hkb
      have hkb : (k.size : Int) ≤ 140737488351232 := by omega
      go_wp2
      go_roundg (n4 - (i + 1))
      case measure => have := hi.out; omega
      case rel => exact ⟨i + 1, _, ⟨by have := hi.out; omega⟩, by go_num, rfl, ⟨by rw [take_snoc_get hg.out, sumS_snoc, hx.out, wrap_add2]; congr 1; omega⟩, rfl⟩
    · have hie : Hd (x = wrap64 (21 + (high.size : Int) + sumS keys)) := ⟨by rw [hx.out, List.take_of_length_le (by have := H.out.keys.len; simp only at this; have := hi.out; omega)]⟩
      by_cases hl : level = 0
      · have hl0 : (level == 0) = true := by simp [hl]
        have hl1 : (level != 0) = false := by simp [hl]
        have hl := Hd.mk hl
        go_wp2
        go_loopg [3, 31] n5 (fun k' v3 v31 wr => ∃ (i : Nat) (x : Int), Hd (i ≤ n5 ∧ k' = n5 - i) ∧ v31 = .int .i64 i ∧ v3 = .int .i64 x ∧ Hd (x = wrap64 (21 + (high.size : Int) + sumS keys + sumS (vals.take i))) ∧ W = wr)
        case atStart => exact ⟨0, _, ⟨by omega⟩, rfl, rfl, ⟨by rw [hie.out]; simp [sumS]⟩, rfl⟩
        case round =>
          obtain ⟨j, y, hj, rfl, rfl, hy, rfl⟩ := hrel
          by_cases hlt2 : (j : Int) < n5
          · have hg : vals[j]? = some (vals[j]'(by have := H.out.vals.len; simp only at this; omega)) := List.getElem?_eq_getElem _
            obtain ⟨ad, rfl, hcell⟩ := (H.out.ext hk.out).vals.at_ (sz := 1) (fun _ => rfl) j _ hg
            have hcell := hcell 0 _ rfl
            simp only [Nat.mul_one, Nat.add_zero] at hcell
            have hkb := H.out.bv _ (List.mem_of_getElem? hg)
            have hg := Hd.mk hg
            generalize vals[j]'_ = k at hg hcell hkb
            have hkb : (k.size : Int) ≤ 140737488351232 := by omega
            go_wp2
            go_roundg (n5 - (j + 1))
            case measure => have := hj.out; omega
            case rel => exact ⟨j + 1, _, ⟨by have := hj.out; omega⟩, by go_num, rfl, ⟨by rw [take_snoc_get hg.out, sumS_snoc, hy.out, wrap_add2]; congr 1; omega⟩, rfl⟩
          · have hje : Hd (y = wrap64 (sizeT ⟨level, lsn, right, high, keys, vals, kids⟩)) := ⟨by
              rw [hy.out, List.take_of_length_le (by have := H.out.vals.len; simp only at this; have := hj.out; omega)]
              simp only [sizeT]; rw [if_pos hl.out]⟩
            go_wp2
            exact hR.out _ _ ⟨by rw [← hje.out], hk.out⟩
      · have hl0 : (level == 0) = false := by simp [hl]
        have hl1 : (level != 0) = true := by simp [hl]
        have hl := Hd.mk hl
        go_wp2
        refine hR.out _ _ ⟨?_, hk.out⟩
        have e : wrap64 (x + 4 * (n6 : Int)) = wrap64 (sizeT ⟨level, lsn, right, high, keys, vals, kids⟩) := by
          have hl6 := H.out.kids.len
          simp only at hl6
          rw [hie.out, wrap_add]; simp only [sizeT]; rw [if_neg hl.out, hl6]
        rw [e]
end Go.Proofs.Ythpfkdaijiaalaa
