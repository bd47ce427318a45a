/- Whether a node is right: the parts. -/
import Derived.Test.YthpfkdaijiaalaaL
namespace Go.Proofs.Ythpfkdaijiaalaa
open Go.RowKit

def inB (n most : Int) : Bool := decide (0 ≤ n) && decide (n ≤ most)
theorem in_any (n most : Int) (w : World) : Calls Try.prog 77 #[.int .i64 n, .int .i64 most] w fun e w' => e = .returned (.bool (inB n most)) ∧ w = w' := by
  refine hide_post fun R hR => ?_
  by_cases h : 0 ≤ n
  · have hd : decide (0 ≤ n) = true := by simpa using h
    go_enter Try.func77, Try.ntmps77
    go_wp2
    exact hR.out _ _ ⟨by simp [inB, h], rfl⟩
  · have hd : decide (0 ≤ n) = false := by simpa using h
    have h' : n < 0 := by omega
    go_enter Try.func77, Try.ntmps77
    go_wp2
    exact hR.out _ _ ⟨by simp only [inB, hd, Bool.false_and], rfl⟩

def valCk (s : ByteArray) : Int := if s.size ≤ 32 then 0 else 51
theorem keyValue_any (s : ByteArray) (w : World) : Calls Try.prog 99 #[.string s] w fun e w' => e = .returned (.int .i64 (valCk s)) ∧ w = w' := by
  refine hide_post fun R hR => ?_
  by_cases h : (32 : Int) < (s.size : Int)
  · have h' : ¬ s.size ≤ 32 := by omega
    go_enter Try.func99, Try.ntmps99
    go_wp2
    exact hR.out _ _ ⟨by simp [valCk, h'], rfl⟩
  · have h' : s.size ≤ 32 := by omega
    go_enter Try.func99, Try.ntmps99
    go_wp2
    exact hR.out _ _ ⟨by simp [valCk, h'], rfl⟩
theorem refValue_any (s : ByteArray) (w : World) : Calls Try.prog 116 #[.string s] w fun e w' => e = .returned (.int .i64 (valCk s)) ∧ w = w' := by
  refine hide_post fun R hR => ?_
  by_cases h : (32 : Int) < (s.size : Int)
  · have h' : ¬ s.size ≤ 32 := by omega
    go_enter Try.func116, Try.ntmps116
    go_wp2
    exact hR.out _ _ ⟨by simp [valCk, h'], rfl⟩
  · have h' : s.size ≤ 32 := by omega
    go_enter Try.func116, Try.ntmps116
    go_wp2
    exact hR.out _ _ ⟨by simp [valCk, h'], rfl⟩
theorem refKey_any (s : ByteArray) (w : World) : Calls Try.prog 115 #[.string s] w fun e w' => e = .returned (.int .i64 (keyCk s)) ∧ w = w' := by
  refine hide_post fun R hR => ?_
  by_cases h1 : (s.size : Int) < 1
  · have hd : decide ((s.size : Int) < 1) = true := by simpa using h1
    have h' : ¬ (1 ≤ s.size ∧ s.size ≤ 16) := by omega
    go_enter Try.func115, Try.ntmps115
    go_wp2
    exact hR.out _ _ ⟨by simp [keyCk, h'], rfl⟩
  · have hd : decide ((s.size : Int) < 1) = false := by simpa using h1
    by_cases h2 : (16 : Int) < (s.size : Int)
    · have h' : ¬ (1 ≤ s.size ∧ s.size ≤ 16) := by omega
      go_enter Try.func115, Try.ntmps115
      go_wp2
      exact hR.out _ _ ⟨by simp [keyCk, h'], rfl⟩
    · have h' : (1 ≤ s.size ∧ s.size ≤ 16) := by omega
      go_enter Try.func115, Try.ntmps115
      go_wp2
      exact hR.out _ _ ⟨by simp [keyCk, h'], rfl⟩
def badV (s : ByteArray) : Bool := decide (32 < s.size)
theorem badV_any (s : ByteArray) (w : World) : Calls Try.prog 118 #[.string s] w fun e w' => e = .returned (.bool (badV s)) ∧ w = w' := by
  refine hide_post fun R hR => ?_
  have hv : Hd ((valCk s != 0) = badV s) := ⟨by unfold valCk badV; by_cases h : s.size ≤ 32 <;> simp [h] <;> omega⟩
  go_enter Try.func118, Try.ntmps118
  go_wp2_with (go_at_call 99; refine (keyValue_any _ _).mono ?_; rintro e w' ⟨rfl, rfl⟩)
  exact hR.out _ _ ⟨by rw [← hv.out]; rfl, rfl⟩
def badK (k : Int) : Bool := decide (k < 1) || decide (4096 < k)
theorem badK_any (k : Int) (w : World) : Calls Try.prog 120 #[.int .i64 k] w fun e w' => e = .returned (.bool (badK k)) ∧ w = w' := by
  refine hide_post fun R hR => ?_
  by_cases h : k < 1
  · have hd : decide (k < 1) = true := by simpa using h
    go_enter Try.func120, Try.ntmps120
    go_wp2
    exact hR.out _ _ ⟨by simp [badK, h], rfl⟩
  · have hd : decide (k < 1) = false := by simpa using h
    have h' : 1 ≤ k := by omega
    go_enter Try.func120, Try.ntmps120
    go_wp2
    exact hR.out _ _ ⟨by simp only [badK, hd, Bool.false_or], rfl⟩

theorem any_take_succ {α : Type} {p : α → Bool} {xs : List α} {i : Nat} {x : α} (h : xs[i]? = some x) : (xs.take (i + 1)).any p = ((xs.take i).any p || p x) := by
  rw [take_snoc_get h]; simp
theorem any_of_get {α : Type} {p : α → Bool} {xs : List α} {i : Nat} {x : α} (h : xs[i]? = some x) (hp : p x = true) : xs.any p = true :=
  List.any_eq_true.2 ⟨x, List.mem_of_getElem? h, hp⟩

set_option maxRecDepth 100000 in
theorem indexV_any (A : Option Addr) (n c : Nat) (xs : List ByteArray) (w : World) (hs : SlAt encS w A n c xs) (hn : n ≤ 140737488355328) :
    Calls Try.prog 135 #[.slice A n c, .func (.func 118) #[] #[]] w fun e w' => (∃ i : Int, e = .returned (.int .i64 i) ∧ decide (0 ≤ i) = xs.any badV) ∧ w = w' := by
  refine hide_post fun R hR => ?_
  have HS := Hd.mk hs; clear hs
  have hn' : (n : Int) ≤ 140737488355328 := by omega
  clear hn
  go_enter Try.func135, Try.ntmps135
  go_wp2
  go_loopg [5, 8] n (fun k' v5 v8 wr => ∃ i : Nat, Hd (i ≤ n ∧ k' = n - i) ∧ v8 = .int .i64 i ∧ Hd ((xs.take i).any badV = false) ∧ w = wr)
  case atStart => exact ⟨0, ⟨by omega⟩, rfl, ⟨by simp⟩, rfl⟩
  case round =>
    obtain ⟨i, hi, rfl, hany, rfl⟩ := hrel
    by_cases hlt : (i : Int) < n
    · have hg : xs[i]? = some (xs[i]'(by have := HS.out.len; omega)) := List.getElem?_eq_getElem _
      obtain ⟨ad, rfl, hcell⟩ := HS.out.at_ (sz := 1) (fun _ => rfl) i _ hg
      have hcell := hcell 0 _ rfl
      simp only [Nat.mul_one, Nat.add_zero] at hcell
      have hg := Hd.mk hg
      generalize xs[i]'_ = x at hg hcell
      have hi0 : (0 : Int) ≤ (i : Int) := by omega
      by_cases hb : badV x = true
      · go_wp2_with (go_at_call 118; refine (badV_any _ _).mono ?_; rintro e w' ⟨rfl, rfl⟩)
        exact hR.out _ _ ⟨⟨i, rfl, by rw [any_of_get hg.out hb]; simp⟩, rfl⟩
      · have hb : badV x = false := by simpa using hb
        go_wp2_with (go_at_call 118; refine (badV_any _ _).mono ?_; rintro e w' ⟨rfl, rfl⟩)
        go_roundg (n - (i + 1))
        case measure => have := hi.out; omega
        case rel => exact ⟨i + 1, ⟨by have := hi.out; omega⟩, by go_num, ⟨by rw [any_take_succ hg.out, hany.out, hb]; rfl⟩, rfl⟩
    · have he : Hd (xs.any badV = false) := ⟨by have h := hany.out; rw [List.take_of_length_le (by have := HS.out.len; have := hi.out; omega)] at h; exact h⟩
      go_wp2
      exact hR.out _ _ ⟨⟨-1, rfl, by rw [he.out]; rfl⟩, rfl⟩
theorem containsV_any (A : Option Addr) (n c : Nat) (xs : List ByteArray) (w : World) (hs : SlAt encS w A n c xs) (hn : n ≤ 140737488355328) :
    Calls Try.prog 119 #[.slice A n c, .func (.func 118) #[] #[]] w fun e w' => e = .returned (.bool (xs.any badV)) ∧ w = w' := by
  refine hide_post fun R hR => ?_
  have HS := Hd.mk hs; clear hs
  have hn := Hd.mk hn
  go_enter Try.func119, Try.ntmps119
  go_wp2_with (go_at_call 135; refine (indexV_any _ _ _ _ _ HS.out hn.out).mono ?_; rintro e w' ⟨⟨i, rfl, hi⟩, rfl⟩; have hi := Hd.mk hi)
  exact hR.out _ _ ⟨by rw [← hi.out]; rfl, rfl⟩

set_option maxRecDepth 100000 in
theorem indexK_any (A : Option Addr) (n c : Nat) (xs : List Int) (w : World) (hs : SlAt encI w A n c xs) (hn : n ≤ 140737488355328) :
    Calls Try.prog 136 #[.slice A n c, .func (.func 120) #[] #[]] w fun e w' => (∃ i : Int, e = .returned (.int .i64 i) ∧ decide (0 ≤ i) = xs.any badK) ∧ w = w' := by
  refine hide_post fun R hR => ?_
  have HS := Hd.mk hs; clear hs
  have hn' : (n : Int) ≤ 140737488355328 := by omega
  clear hn
  go_enter Try.func136, Try.ntmps136
  go_wp2
  go_loopg [5, 8] n (fun k' v5 v8 wr => ∃ i : Nat, Hd (i ≤ n ∧ k' = n - i) ∧ v8 = .int .i64 i ∧ Hd ((xs.take i).any badK = false) ∧ w = wr)
  case atStart => exact ⟨0, ⟨by omega⟩, rfl, ⟨by simp⟩, rfl⟩
  case round =>
    obtain ⟨i, hi, rfl, hany, rfl⟩ := hrel
    by_cases hlt : (i : Int) < n
    · have hg : xs[i]? = some (xs[i]'(by have := HS.out.len; omega)) := List.getElem?_eq_getElem _
      obtain ⟨ad, rfl, hcell⟩ := HS.out.at_ (sz := 1) (fun _ => rfl) i _ hg
      have hcell := hcell 0 _ rfl
      simp only [Nat.mul_one, Nat.add_zero] at hcell
      have hg := Hd.mk hg
      generalize xs[i]'_ = x at hg hcell
      have hi0 : (0 : Int) ≤ (i : Int) := by omega
      by_cases hb : badK x = true
      · go_wp2_with (go_at_call 120; refine (badK_any _ _).mono ?_; rintro e w' ⟨rfl, rfl⟩)
        exact hR.out _ _ ⟨⟨i, rfl, by rw [any_of_get hg.out hb]; simp⟩, rfl⟩
      · have hb : badK x = false := by simpa using hb
        go_wp2_with (go_at_call 120; refine (badK_any _ _).mono ?_; rintro e w' ⟨rfl, rfl⟩)
        go_roundg (n - (i + 1))
        case measure => have := hi.out; omega
        case rel => exact ⟨i + 1, ⟨by have := hi.out; omega⟩, by go_num, ⟨by rw [any_take_succ hg.out, hany.out, hb]; rfl⟩, rfl⟩
    · have he : Hd (xs.any badK = false) := ⟨by have h := hany.out; rw [List.take_of_length_le (by have := HS.out.len; have := hi.out; omega)] at h; exact h⟩
      go_wp2
      exact hR.out _ _ ⟨⟨-1, rfl, by rw [he.out]; rfl⟩, rfl⟩
theorem containsK_any (A : Option Addr) (n c : Nat) (xs : List Int) (w : World) (hs : SlAt encI w A n c xs) (hn : n ≤ 140737488355328) :
    Calls Try.prog 121 #[.slice A n c, .func (.func 120) #[] #[]] w fun e w' => e = .returned (.bool (xs.any badK)) ∧ w = w' := by
  refine hide_post fun R hR => ?_
  have HS := Hd.mk hs; clear hs
  have hn := Hd.mk hn
  go_enter Try.func121, Try.ntmps121
  go_wp2_with (go_at_call 136; refine (indexK_any _ _ _ _ _ HS.out hn.out).mono ?_; rintro e w' ⟨⟨i, rfl, hi⟩, rfl⟩; have hi := Hd.mk hi)
  exact hR.out _ _ ⟨by rw [← hi.out]; rfl, rfl⟩
end Go.Proofs.Ythpfkdaijiaalaa
