/- Lists are compared: bytes, texts, ints. -/
import Derived.Test.YthpfkdaijiaalaaJ
namespace Go.Proofs.Ythpfkdaijiaalaa
open Go.RowKit

theorem take_eq_succ {α : Type} {xs ys : List α} {i : Nat} {x y : α} (h : xs.take i = ys.take i) (hx : xs[i]? = some x) (hy : ys[i]? = some y) (e : x = y) : xs.take (i + 1) = ys.take (i + 1) := by
  rw [List.take_add_one, List.take_add_one, h, hx, hy, e]
theorem take_ne {α : Type} {xs ys : List α} {i : Nat} {x y : α} (hx : xs[i]? = some x) (hy : ys[i]? = some y) (e : x ≠ y) : xs ≠ ys := fun h => e (by rw [h, hy] at hx; exact (Option.some.inj hx).symm)

set_option maxRecDepth 100000 in
theorem equal8_any (A1 : Option Addr) (n1 c1 : Nat) (xs : List UInt8) (A2 : Option Addr) (n2 c2 : Nat) (ys : List UInt8) (w : World) (hs1 : SlAt enc8 w A1 n1 c1 xs) (hs2 : SlAt enc8 w A2 n2 c2 ys) (hn : n1 ≤ 140737488355328) :
    Calls Try.prog 92 #[.slice A1 n1 c1, .slice A2 n2 c2] w fun e w' => e = .returned (.bool (decide (xs = ys))) ∧ Ext w w' := by
  refine hide_post fun R hR => ?_
  have HS1 := Hd.mk hs1; clear hs1
  have HS2 := Hd.mk hs2; clear hs2
  have hn' : (n1 : Int) ≤ 140737488355328 := by omega
  clear hn
  by_cases hne : n1 = n2
  · subst hne
    go_enter Try.func92, Try.ntmps92
    go_wp2
    go_loopg [5, 13] n1 (fun k' v5 v13 wr => ∃ i : Nat, Hd (i ≤ n1 ∧ k' = n1 - i) ∧ v13 = .int .i64 i ∧ Hd (xs.take i = ys.take i) ∧ Hd (Ext w wr))
    case atStart => exact ⟨0, ⟨by omega⟩, rfl, ⟨rfl⟩, ⟨ext_refl w⟩⟩
    case round =>
      obtain ⟨i, hi, rfl, heq, hk⟩ := hrel
      by_cases hlt : (i : Int) < n1
      · have hx : xs[i]? = some (xs[i]'(by have := HS1.out.len; omega)) := List.getElem?_eq_getElem _
        have hy : ys[i]? = some (ys[i]'(by have := HS2.out.len; omega)) := List.getElem?_eq_getElem _
        have hi0 : (0 : Int) ≤ (i : Int) := by omega
        obtain ⟨a1, rfl, hcx⟩ := (HS1.out.ext hk.out).at_ (sz := 1) (fun _ => rfl) i _ hx
        obtain ⟨a2, rfl, hcy⟩ := (HS2.out.ext hk.out).at_ (sz := 1) (fun _ => rfl) i _ hy
        have hcx := hcx 0 _ rfl
        have hcy := hcy 0 _ rfl
        simp only [Nat.mul_one, Nat.add_zero, u8v] at hcx hcy
        have hx := Hd.mk hx
        have hy := Hd.mk hy
        generalize xs[i]'_ = x at hx hcx
        generalize ys[i]'_ = y at hy hcy
        by_cases hxy : x = y
        · subst hxy
          go_wp2
          go_quiet (fail)
          go_wp2
          go_roundg (n1 - (i + 1))
          case measure => have := hi.out; omega
          case rel => exact ⟨i + 1, ⟨by have := hi.out; omega⟩, by go_num, ⟨take_eq_succ heq.out hx.out hy.out rfl⟩, ⟨hk.out.drewN _⟩⟩
        · have hb : ((x.toNat : Int) != (y.toNat : Int)) = true := by
            rw [bne_iff_ne]; exact fun e => hxy (UInt8.toNat_inj.1 (by omega))
          have hne := Hd.mk (take_ne hx.out hy.out hxy)
          clear hxy
          go_wp2
          go_quiet (fail)
          go_wp2
          exact hR.out _ _ ⟨by rw [decide_eq_false hne.out]; rfl, hk.out.drewN _⟩
      · have hie : Hd (i = n1) := ⟨by have := hi.out; omega⟩
        go_wp2
        exact hR.out _ _ ⟨by
          have h1 := heq.out
          rw [List.take_of_length_le (by have := HS1.out.len; have := hie.out; omega), List.take_of_length_le (by have := HS2.out.len; have := hie.out; omega)] at h1
          rw [decide_eq_true h1], hk.out⟩
  · have hb : ((n1 : Int) != (n2 : Int)) = true := by rw [bne_iff_ne]; omega
    have hne := Hd.mk (show xs ≠ ys from fun e => hne (by rw [← HS1.out.len, ← HS2.out.len, e]))
    go_enter Try.func92, Try.ntmps92
    go_wp2
    exact hR.out _ _ ⟨by rw [decide_eq_false hne.out]; rfl, ext_refl w⟩
set_option maxRecDepth 100000 in
theorem texts_any (A1 : Option Addr) (n1 c1 : Nat) (xs : List ByteArray) (A2 : Option Addr) (n2 c2 : Nat) (ys : List ByteArray) (w : World) (hs1 : SlAt encS w A1 n1 c1 xs) (hs2 : SlAt encS w A2 n2 c2 ys) (hn : n1 ≤ 140737488355328) :
    Calls Try.prog 95 #[.slice A1 n1 c1, .slice A2 n2 c2] w fun e w' => e = .returned (.bool (decide (xs = ys))) ∧ Ext w w' := by
  refine hide_post fun R hR => ?_
  have HS1 := Hd.mk hs1; clear hs1
  have HS2 := Hd.mk hs2; clear hs2
  have hn' : (n1 : Int) ≤ 140737488355328 := by omega
  clear hn
  by_cases hne : n1 = n2
  · subst hne
    go_enter Try.func95, Try.ntmps95
    go_wp2
    go_loopg [5, 13] n1 (fun k' v5 v13 wr => ∃ i : Nat, Hd (i ≤ n1 ∧ k' = n1 - i) ∧ v13 = .int .i64 i ∧ Hd (xs.take i = ys.take i) ∧ Hd (Ext w wr))
    case atStart => exact ⟨0, ⟨by omega⟩, rfl, ⟨rfl⟩, ⟨ext_refl w⟩⟩
    case round =>
      obtain ⟨i, hi, rfl, heq, hk⟩ := hrel
      by_cases hlt : (i : Int) < n1
      · have hx : xs[i]? = some (xs[i]'(by have := HS1.out.len; omega)) := List.getElem?_eq_getElem _
        have hy : ys[i]? = some (ys[i]'(by have := HS2.out.len; omega)) := List.getElem?_eq_getElem _
        have hi0 : (0 : Int) ≤ (i : Int) := by omega
        obtain ⟨a1, rfl, hcx⟩ := (HS1.out.ext hk.out).at_ (sz := 1) (fun _ => rfl) i _ hx
        obtain ⟨a2, rfl, hcy⟩ := (HS2.out.ext hk.out).at_ (sz := 1) (fun _ => rfl) i _ hy
        have hcx := hcx 0 _ rfl
        have hcy := hcy 0 _ rfl
        simp only [Nat.mul_one, Nat.add_zero] at hcx hcy
        have hx := Hd.mk hx
        have hy := Hd.mk hy
        generalize xs[i]'_ = x at hx hcx
        generalize ys[i]'_ = y at hy hcy
        by_cases hxy : x = y
        · subst hxy
          have hbb : (x.toList == x.toList) = true := by simp
          go_wp2
          go_quiet (fail)
          go_wp2
          go_roundg (n1 - (i + 1))
          case measure => have := hi.out; omega
          case rel => exact ⟨i + 1, ⟨by have := hi.out; omega⟩, by go_num, ⟨take_eq_succ heq.out hx.out hy.out rfl⟩, ⟨hk.out.drewN _⟩⟩
        · have hb : (x.toList == y.toList) = false := by rw [beq_eq_false_iff_ne]; exact fun e => hxy (by rw [← bsStr_of x, ← bsStr_of y, e])
          have hne := Hd.mk (take_ne hx.out hy.out hxy)
          clear hxy
          go_wp2
          go_quiet (fail)
          go_wp2
          exact hR.out _ _ ⟨by rw [decide_eq_false hne.out]; rfl, hk.out.drewN _⟩
      · have hie : Hd (i = n1) := ⟨by have := hi.out; omega⟩
        go_wp2
        exact hR.out _ _ ⟨by
          have h1 := heq.out
          rw [List.take_of_length_le (by have := HS1.out.len; have := hie.out; omega), List.take_of_length_le (by have := HS2.out.len; have := hie.out; omega)] at h1
          rw [decide_eq_true h1], hk.out⟩
  · have hb : ((n1 : Int) != (n2 : Int)) = true := by rw [bne_iff_ne]; omega
    have hne := Hd.mk (show xs ≠ ys from fun e => hne (by rw [← HS1.out.len, ← HS2.out.len, e]))
    go_enter Try.func95, Try.ntmps95
    go_wp2
    exact hR.out _ _ ⟨by rw [decide_eq_false hne.out]; rfl, ext_refl w⟩
set_option maxRecDepth 100000 in
theorem ints_any (A1 : Option Addr) (n1 c1 : Nat) (xs : List Int) (A2 : Option Addr) (n2 c2 : Nat) (ys : List Int) (w : World) (hs1 : SlAt encI w A1 n1 c1 xs) (hs2 : SlAt encI w A2 n2 c2 ys) (hn : n1 ≤ 140737488355328) :
    Calls Try.prog 96 #[.slice A1 n1 c1, .slice A2 n2 c2] w fun e w' => e = .returned (.bool (decide (xs = ys))) ∧ Ext w w' := by
  refine hide_post fun R hR => ?_
  have HS1 := Hd.mk hs1; clear hs1
  have HS2 := Hd.mk hs2; clear hs2
  have hn' : (n1 : Int) ≤ 140737488355328 := by omega
  clear hn
  by_cases hne : n1 = n2
  · subst hne
    go_enter Try.func96, Try.ntmps96
    go_wp2
    go_loopg [5, 13] n1 (fun k' v5 v13 wr => ∃ i : Nat, Hd (i ≤ n1 ∧ k' = n1 - i) ∧ v13 = .int .i64 i ∧ Hd (xs.take i = ys.take i) ∧ Hd (Ext w wr))
    case atStart => exact ⟨0, ⟨by omega⟩, rfl, ⟨rfl⟩, ⟨ext_refl w⟩⟩
    case round =>
      obtain ⟨i, hi, rfl, heq, hk⟩ := hrel
      by_cases hlt : (i : Int) < n1
      · have hx : xs[i]? = some (xs[i]'(by have := HS1.out.len; omega)) := List.getElem?_eq_getElem _
        have hy : ys[i]? = some (ys[i]'(by have := HS2.out.len; omega)) := List.getElem?_eq_getElem _
        have hi0 : (0 : Int) ≤ (i : Int) := by omega
        obtain ⟨a1, rfl, hcx⟩ := (HS1.out.ext hk.out).at_ (sz := 1) (fun _ => rfl) i _ hx
        obtain ⟨a2, rfl, hcy⟩ := (HS2.out.ext hk.out).at_ (sz := 1) (fun _ => rfl) i _ hy
        have hcx := hcx 0 _ rfl
        have hcy := hcy 0 _ rfl
        simp only [Nat.mul_one, Nat.add_zero] at hcx hcy
        have hx := Hd.mk hx
        have hy := Hd.mk hy
        generalize xs[i]'_ = x at hx hcx
        generalize ys[i]'_ = y at hy hcy
        by_cases hxy : x = y
        · subst hxy
          go_wp2
          go_quiet (fail)
          go_wp2
          go_roundg (n1 - (i + 1))
          case measure => have := hi.out; omega
          case rel => exact ⟨i + 1, ⟨by have := hi.out; omega⟩, by go_num, ⟨take_eq_succ heq.out hx.out hy.out rfl⟩, ⟨hk.out.drewN _⟩⟩
        · have hb : (x != y) = true := by rw [bne_iff_ne]; exact hxy
          have hne := Hd.mk (take_ne hx.out hy.out hxy)
          clear hxy
          go_wp2
          go_quiet (fail)
          go_wp2
          exact hR.out _ _ ⟨by rw [decide_eq_false hne.out]; rfl, hk.out.drewN _⟩
      · have hie : Hd (i = n1) := ⟨by have := hi.out; omega⟩
        go_wp2
        exact hR.out _ _ ⟨by
          have h1 := heq.out
          rw [List.take_of_length_le (by have := HS1.out.len; have := hie.out; omega), List.take_of_length_le (by have := HS2.out.len; have := hie.out; omega)] at h1
          rw [decide_eq_true h1], hk.out⟩
  · have hb : ((n1 : Int) != (n2 : Int)) = true := by rw [bne_iff_ne]; omega
    have hne := Hd.mk (show xs ≠ ys from fun e => hne (by rw [← HS1.out.len, ← HS2.out.len, e]))
    go_enter Try.func96, Try.ntmps96
    go_wp2
    exact hR.out _ _ ⟨by rw [decide_eq_false hne.out]; rfl, ext_refl w⟩
end Go.Proofs.Ythpfkdaijiaalaa
