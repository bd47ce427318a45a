/- The order of texts, by definition. -/
import Derived.Test.YthpfkdaijiaalaaP
namespace Go.Proofs.Ythpfkdaijiaalaa
open Go.RowKit

def cmpB (a b : ByteArray) : Int := if ltB a b then -1 else if ltB b a then 1 else 0

theorem less_pre (p x y : List UInt8) : Op.bytesLess (p ++ x) (p ++ y) = Op.bytesLess x y := by
  induction p with
  | nil => rfl
  | cons a p ih => simp only [List.cons_append, Op.bytesLess, ih]; simp
theorem less_at {x y : List UInt8} {i : Nat} {u v : UInt8} (h : x.take i = y.take i) (hx : x[i]? = some u) (hy : y[i]? = some v) (hn : u ≠ v) : Op.bytesLess x y = decide (u < v) := by
  have h1 : x = x.take i ++ (u :: x.drop (i + 1)) := by
    have := List.getElem?_eq_some_iff.1 hx
    obtain ⟨hl, rfl⟩ := this
    rw [← List.drop_eq_getElem_cons hl, List.take_append_drop]
  have h2 : y = x.take i ++ (v :: y.drop (i + 1)) := by
    have := List.getElem?_eq_some_iff.1 hy
    obtain ⟨hl, rfl⟩ := this
    rw [h, ← List.drop_eq_getElem_cons hl, List.take_append_drop]
  rw [h1, h2, less_pre]
  simp only [Op.bytesLess]
  have : (u == v) = false := by simpa using hn
  rw [this]; simp
theorem less_end {x y : List UInt8} {i : Nat} (h : x.take i = y.take i) (hi : i = x.length ∨ i = y.length) (hx : i ≤ x.length) (hy : i ≤ y.length) : Op.bytesLess x y = decide (x.length < y.length) := by
  have h1 : x = x.take i ++ x.drop i := (List.take_append_drop _ _).symm
  have h2 : y = x.take i ++ y.drop i := by rw [h, List.take_append_drop]
  have h3 : Op.bytesLess x y = Op.bytesLess (x.drop i) (y.drop i) := by conv => lhs; rw [h1, h2, less_pre]
  rw [h3]
  rcases hi with rfl | rfl
  · rw [List.drop_length]
    cases hd : y.drop x.length with
    | nil =>
      have : y.length ≤ x.length := by simpa using hd
      simp [Op.bytesLess]; omega
    | cons v t =>
      have : (y.drop x.length).length = (v :: t).length := by rw [hd]
      simp at this
      simp [Op.bytesLess]; omega
  · rw [List.drop_length]
    have e : ∀ l, Op.bytesLess l ([] : List UInt8) = false := by intro l; cases l <;> rfl
    rw [e]; simp; omega
theorem ba_get (a : ByteArray) (i : Nat) (h : i < a.size) : a.toList[i]? = some a[i] := by
  rw [ByteArray.toList_eq]
  have : i < a.data.size := h
  simp only [Array.getElem?_toList]
  exact Array.getElem?_eq_getElem this

set_option maxRecDepth 100000 in
theorem compare_any (a b : ByteArray) (ha : a.size ≤ 140737488351232) (hb : b.size ≤ 140737488351232) (w : World) : Calls Try.prog 122 #[.string a, .string b] w fun e w' => e = .returned (.int .i64 (cmpB a b)) ∧ Ext w w' := by
  refine hide_post fun R hR => ?_
  have ha' : (a.size : Int) ≤ 140737488351232 := by omega
  have hb' : (b.size : Int) ≤ 140737488351232 := by omega
  clear ha hb
  go_enter Try.func122, Try.ntmps122
  go_wp2
  go_loopg [5] a.size (fun k' v5 wr => ∃ i q : Nat, Hd (i ≤ a.size ∧ i ≤ b.size ∧ k' = a.size - i) ∧ v5 = .int .i64 i ∧ Hd (a.toList.take i = b.toList.take i) ∧ wr = w.drewN q)
  case atStart => exact ⟨0, 0, ⟨by omega⟩, rfl, ⟨by simp⟩, rfl⟩
  case round =>
    obtain ⟨i, q, hi, rfl, hany, rfl⟩ := hrel
    by_cases h1 : (i : Int) < (a.size : Int)
    · have h1d : decide ((i : Int) < (a.size : Int)) = true := by simpa using h1
      by_cases h2 : (i : Int) < (b.size : Int)
      · have h2d : decide ((i : Int) < (b.size : Int)) = true := by simpa using h2
        have hg1 := Hd.mk (ba_get a i (by omega))
        have hg2 := Hd.mk (ba_get b i (by omega))
        by_cases hlt : (a[i]'(by omega)).toNat < (b[i]'(by omega)).toNat
        · have e1 : Hd (cmpB a b = -1) := ⟨by
            have h := less_at hany.out hg1.out hg2.out (fun e => by rw [e] at hlt; omega)
            have : decide (a[i] < b[i]) = true := by simpa [UInt8.lt_iff_toNat_lt] using hlt
            simp [cmpB, ltB, h, this]⟩
          have hltd : decide ((a[i]'(by omega)).toNat < (b[i]'(by omega)).toNat) = true := by simpa using hlt
          go_wp2
          go_quiet (fail)
          go_wp2
          exact hR.out _ _ ⟨by rw [e1.out]; rfl, ((ext_refl w).drewN _).drewN _⟩
        · by_cases hgt : (b[i]'(by omega)).toNat < (a[i]'(by omega)).toNat
          · have e1 : Hd (cmpB a b = 1) := ⟨by
              have h := less_at hany.out hg1.out hg2.out (fun e => by rw [e] at hgt; omega)
              have h' := less_at hany.out.symm hg2.out hg1.out (fun e => by rw [e] at hgt; omega)
              have e2 : decide (a[i] < b[i]) = false := by simpa [UInt8.lt_iff_toNat_lt] using hlt
              have e3 : decide (b[i] < a[i]) = true := by simpa [UInt8.lt_iff_toNat_lt] using hgt
              simp only [cmpB, ltB, h, h', e2, e3]; rfl⟩
            go_wp2
            go_quiet (fail)
            go_wp2
            go_quiet (fail)
            go_wp2
            exact hR.out _ _ ⟨by rw [e1.out]; rfl, (((ext_refl w).drewN _).drewN _).drewN _⟩
          · have e1 : Hd (a.toList.take (i + 1) = b.toList.take (i + 1)) := ⟨take_eq_succ hany.out hg1.out hg2.out (UInt8.toNat_inj.1 (by omega))⟩
            go_wp2
            go_quiet (fail)
            go_wp2
            go_quiet (fail)
            go_wp2
            go_roundg (a.size - (i + 1))
            case measure => have := hi.out; omega
            case rel => exact ⟨i + 1, _, ⟨by have := hi.out; omega⟩, by go_num, e1, rfl⟩
      · have h2d : decide ((i : Int) < (b.size : Int)) = false := by simpa using h2
        have e1 : Hd (cmpB a b = 1) := ⟨by
          have hl := hi.out
          have h := less_end hany.out (.inr (by rw [← size_list]; omega)) (by rw [← size_list]; omega) (by rw [← size_list]; omega)
          have h' := less_end hany.out.symm (.inl (by rw [← size_list]; omega)) (by rw [← size_list]; omega) (by rw [← size_list]; omega)
          rw [← size_list, ← size_list] at h h'
          rw [decide_eq_false (by omega)] at h
          rw [decide_eq_true (by omega)] at h'
          simp only [cmpB, ltB, h, h']; rfl⟩
        have h3 : ¬ (a.size : Int) < (b.size : Int) := by have := hi.out; omega
        have h4 : (b.size : Int) < (a.size : Int) := by have := hi.out; omega
        go_wp2
        exact hR.out _ _ ⟨by rw [e1.out], (ext_refl w).drewN _⟩
    · have h1d : decide ((i : Int) < (a.size : Int)) = false := by simpa using h1
      have hl := hi.out
      have hi' : i = a.size := by omega
      have h := less_end hany.out (.inl (by rw [← size_list]; omega)) (by rw [← size_list]; omega) (by rw [← size_list]; omega)
      have h' := less_end hany.out.symm (.inr (by rw [← size_list]; omega)) (by rw [← size_list]; omega) (by rw [← size_list]; omega)
      rw [← size_list, ← size_list] at h h'
      rw [decide_eq_false (by omega : ¬ b.size < a.size)] at h'
      by_cases h3 : (a.size : Int) < (b.size : Int)
      · rw [decide_eq_true (by omega)] at h
        have e1 : Hd (cmpB a b = -1) := ⟨by simp only [cmpB, ltB, h, h']; rfl⟩
        clear h h' hl hi'
        go_wp2
        exact hR.out _ _ ⟨by rw [e1.out], (ext_refl w).drewN _⟩
      · rw [decide_eq_false (by omega)] at h
        have e1 : Hd (cmpB a b = 0) := ⟨by simp only [cmpB, ltB, h, h']; rfl⟩
        have h4 : ¬ (b.size : Int) < (a.size : Int) := by omega
        clear h h' hl hi'
        go_wp2
        exact hR.out _ _ ⟨by rw [e1.out], (ext_refl w).drewN _⟩
end Go.Proofs.Ythpfkdaijiaalaa
