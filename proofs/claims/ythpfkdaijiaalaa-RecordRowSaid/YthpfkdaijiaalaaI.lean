/- The reference's sums. -/
import Derived.Test.YthpfkdaijiaalaaH
namespace Go.Proofs.Ythpfkdaijiaalaa
open Go.RowKit

theorem stp_odd {s : Nat} (h : ((s % 2 : Nat) : Int) = 1) : stp s = s / 2 ^^^ 3988292384 := by unfold stp; rw [if_pos (by omega)]
theorem stp_even {s : Nat} (h : ¬ ((s % 2 : Nat) : Int) = 1) : stp s = s / 2 := by unfold stp; rw [if_neg (by omega)]

set_option maxRecDepth 100000 in
theorem refsum_any (A : Option Addr) (n c : Nat) (xs : List UInt8) (w : World) (hs : SlAt enc8 w A n c xs) (hn : n ≤ 140737488355328) :
    Calls Try.prog 125 #[.slice A n c] w fun e w' => e = .returned (.int .i64 (sumB xs)) ∧ w = w' := by
  refine hide_post fun R hR => ?_
  have HS := Hd.mk hs; clear hs
  have hn' : (n : Int) ≤ 140737488355328 := by omega
  clear hn
  go_enter Try.func125, Try.ntmps125
  go_wp2
  go_loopg [3, 10] n (fun k' v3 v10 wr => ∃ i s : Nat, Hd (i ≤ n ∧ k' = n - i) ∧ v10 = .int .i64 i ∧ v3 = .int .u32 (s : Nat) ∧ Hd ((xs.take i).foldl crcStep 4294967295 = s) ∧ w = wr)
  case atStart => exact ⟨0, 4294967295, ⟨by omega⟩, rfl, rfl, ⟨rfl⟩, rfl⟩
  case round =>
    obtain ⟨i, s, hi, rfl, rfl, hs, rfl⟩ := hrel
    have hlt32 : Hd (s < 4294967296) := ⟨by rw [← hs.out]; exact foldl_lt (xs.take i) 4294967295 (by omega)⟩
    by_cases hlt : (i : Int) < n
    · have hx : xs[i]? = some (xs[i]?.getD 0) := by
        have : i < xs.length := by rw [HS.out.len]; omega
        simp [this]
      obtain ⟨ad, rfl, hcell⟩ := HS.out.at_ (sz := 1) (fun _ => rfl) i _ hx
      have hcell := hcell 0 _ rfl
      simp only [Nat.mul_one, Nat.add_zero, u8v] at hcell
      have hx := Hd.mk hx
      generalize xs[i]?.getD 0 = x at hx hcell
      have HX := Hd.mk (byte_lt x)
      have hstart : Hd (bits .xor .u32 (s : Int) (x.toNat : Int) = ((stpN 0 (s ^^^ x.toNat) : Nat) : Int)) := ⟨xor_u32 s x.toNat hlt32.out (by have := HX.out; omega)⟩
      have hx0 : (0 : Int) ≤ (x.toNat : Int) := by omega
      have hx1 : (x.toNat : Int) ≤ 255 := by have := HX.out; omega
      go_wp2
      rw [hstart.out]
      go_loopg [3, 6] 8 (fun k' v3 v6 wr => ∃ j t : Nat, Hd (j ≤ 8 ∧ k' = 8 - j) ∧ v6 = .int .i64 j ∧ v3 = .int .u32 (t : Nat) ∧ Hd (stpN j (s ^^^ x.toNat) = t) ∧ w = wr)
      case atStart => exact ⟨0, _, ⟨by omega⟩, rfl, rfl, ⟨rfl⟩, rfl⟩
      case round =>
        obtain ⟨j, t, hj, rfl, rfl, ht, rfl⟩ := hrel
        have ht32 : Hd (t < 4294967296) := ⟨by rw [← ht.out]; exact stpN_lt (xor_byte_lt hlt32.out x) j⟩
        by_cases hlt2 : (j : Int) < 8
        · have hb := and_u32 t 1 ht32.out (by omega)
          rw [Nat.and_one_is_mod] at hb
          rcases Nat.mod_two_eq_zero_or_one t with hr | hr
          · have h1 : bits .and .u32 (t : Int) 1 = 0 := by rw [hr] at hb; exact hb
            have h2 : Hd ((t : Int) / 2 = ((stp t : Nat) : Int)) := ⟨by unfold stp; rw [if_neg (by omega)]; omega⟩
            clear hb hr
            go_wp2
            go_roundg (8 - (j + 1))
            case measure => have := hj.out; omega
            case rel => exact ⟨j + 1, _, ⟨by have := hj.out; omega⟩, by go_num, by rw [h2.out], ⟨by rw [stpN, ht.out]⟩, rfl⟩
          · have h1 : bits .and .u32 (t : Int) 1 = 1 := by rw [hr] at hb; exact hb
            have h2 : Hd (bits .xor .u32 ((t : Int) / 2) 3988292384 = ((stp t : Nat) : Int)) := ⟨by
              unfold stp; rw [if_pos hr]
              have := xor_u32 (t / 2) 3988292384 (by have := ht32.out; omega) (by omega)
              simpa using this⟩
            clear hb hr
            go_wp2
            go_roundg (8 - (j + 1))
            case measure => have := hj.out; omega
            case rel => exact ⟨j + 1, _, ⟨by have := hj.out; omega⟩, by go_num, by rw [h2.out], ⟨by rw [stpN, ht.out]⟩, rfl⟩
        · have hje : Hd (j = 8) := ⟨by have := hj.out; omega⟩
          go_wp2
          go_roundg (n - (i + 1))
          case measure => have := hi.out; omega
          case rel => exact ⟨i + 1, t, ⟨by have := hi.out; omega⟩, by go_num, rfl, ⟨by rw [foldl_take_succ _ _ _ _ _ hx.out, hs.out, crcStep, ← hje.out, ht.out]⟩, rfl⟩
    · have hin : Hd (i = n) := ⟨by have := hi.out; omega⟩
      go_wp2
      refine hR.out _ _ ⟨?_, rfl⟩
      have e1 : bits .xor .u32 (s : Int) 4294967295 = ((4294967295 - s : Nat) : Int) := by
        have h1 := xor_u32 s 4294967295 hlt32.out (by omega)
        have h2 := compl32 s hlt32.out
        have h0 : (IntKind.u32.max : Int) = ((4294967295 : Nat) : Int) := by decide +kernel
        rw [h0, xor_u32 _ _ (by omega) hlt32.out, Nat.xor_comm] at h2
        rw [← h2]; exact h1
      have e2 : wrap64 ((4294967295 - s : Nat) : Int) = ((sumB xs : Nat) : Int) := by
        have ht : xs.take i = xs := List.take_of_length_le (by rw [HS.out.len, hin.out]; omega)
        have h3 := hs.out
        rw [ht] at h3
        unfold sumB crcAll wrap64; rw [h3]; omega
      rw [e1, e2]

theorem refseal_any (A : Option Addr) (n c : Nat) (xs : List UInt8) (w : World) (hs : SlAt enc8 w A n c xs) (hn : n ≤ 100000000000) :
    Calls Try.prog 88 #[.slice A n c] w (RetOwn enc8 1 5 w (sealB xs)) := by
  refine hide_post fun R hR => ?_
  have HS := Hd.mk hs; clear hs
  have HN := Hd.mk hn; clear hn
  go_enter Try.func88, Try.ntmps88
  go_wp2_with (at_builtin; refine wp_app Try.E8 rfl _ _ rfl rfl (Own.nil_ enc8 1 5 w.heap.size w) rfl HS.out ?c1 ?c2 ?c3 ?_)
  case c1 => have := HN.out; omega
  case c2 => have := HN.out; omega
  case c3 => exact Nat.le_refl _
  intro A1 c1 w1 ho1 hk1 _
  have hk1 : Hd (Ext w w1) := ⟨hk1.weaken (fun k _ h => h.1 rfl)⟩
  have ho1 := Hd.mk ho1
  have HB := Hd.mk (sumB_lt xs)
  have hL : Hd (xs.length = n) := ⟨HS.out.len⟩
  go_wp2_with fail
  refine (refsum_any A n c xs w1 (HS.out.ext hk1.out) (by have := HN.out; omega)).mono ?_
  rintro e w1' ⟨rfl, rfl⟩
  go_wp2_with fail
  refine (refnum_any _ 4 (by omega) (by omega) (by have := HB.out; omega) w1).mono ?_
  rintro e w2 ⟨A2, c2, rfl, ho2, hk2⟩
  simp only [Int.toNat_natCast] at ho2
  generalize hM : (leB (sumB xs) 4).length = M at ho2
  have hM2 : (leB ((sumB xs : Nat) : Int).toNat 4).length = M := by rw [Int.toNat_natCast]; exact hM
  rw [hM2]
  have hM : Hd (M = 4) := ⟨by rw [← hM, leB_len]⟩
  clear hM2
  have ho2 := Hd.mk ho2
  have hk2 := Hd.mk hk2
  go_wp2_with (at_builtin; refine wp_app Try.E8 rfl _ _ rfl rfl (ho1.out.ext hk2.out) rfl ho2.out.sl ?d1 ?d2 ?d3 ?_)
  case d1 => have := HN.out; have := hM.out; omega
  case d2 => have := HN.out; have := hM.out; omega
  case d3 => exact Nat.le_trans hk1.out.size hk2.out.size
  intro A5 c5 w5 ho5 hk5 _
  have ho5 := Hd.mk ho5
  have hk5 : Hd (Ext w w5) := ⟨(hk1.out.ext hk2.out).trans hk5 (fun k hk hf => by have := (ho1.out.ge hf).1; omega)⟩
  go_wp2
  refine hR.out _ _ ⟨A5, c5, ?_, ?_, hk5.out⟩
  · show _ = Ending.returned (.slice A5 (xs ++ leB (sumB xs) 4).length c5)
    have hl := ho5.out.len
    rw [hl]; rfl
  · have hl := ho5.out.len
    show Own enc8 1 5 w.heap.size w5 A5 (xs ++ leB (sumB xs) 4).length c5 (xs ++ leB (sumB xs) 4)
    rw [hl]; exact ho5.out

theorem leB_leN (xs : List UInt8) : leB (leN xs) xs.length = xs := by
  induction xs with
  | nil => rfl
  | cons x xs ih =>
    have hx := x.toNat_lt
    simp only [leN, List.length_cons, leB]
    have e1 : (x.toNat + 256 * leN xs) / 256 = leN xs := by omega
    rw [e1, ih]
    congr 1
    apply UInt8.toNat_inj.1
    simp
theorem leN_leB (n k : Nat) (h : n < 256 ^ k) : leN (leB n k) = n := by
  induction k generalizing n with
  | zero => simp at h; subst h; rfl
  | succ k ih =>
    simp only [leB, leN]
    rw [ih (n / 256) (by rw [Nat.pow_succ] at h; omega)]
    simp only [UInt8.toNat_ofNat']
    omega
theorem bsStr_inj {xs ys : List UInt8} (h : bsStr xs = bsStr ys) : xs = ys := by
  have := congrArg ByteArray.toList h
  rwa [bsStr_toList, bsStr_toList] at this

/-- What the reference's Open answers. -/
def RetOpenR (w : World) (xs : List UInt8) (e : Ending) (w' : World) : Prop :=
  Ext w w' ∧ ∃ A n c, e = .returned (.tuple #[.slice A n c, .int .i64 (if xs.length < 4 then 10 else if openOk xs then 0 else 20)])

theorem refnum_get (n k : Nat) (hk : k ≤ 8) (hn : n ≤ 9223372036854775807) (w : World) :
    Calls Try.prog 86 #[.int .i64 (n : Int), .int .i64 k] w fun e w' => ∃ A c, e = .returned (.slice A k c) ∧ Own enc8 1 5 w.heap.size w' A k c (leB n k) ∧ Ext w w' := by
  refine (refnum_any n k hk (by omega) (by omega) w).mono ?_
  rintro e w' ⟨A, c, rfl, ho, hk1⟩
  rw [leB_len, Int.toNat_natCast] at ho
  rw [leB_len]
  exact ⟨A, c, rfl, ho, hk1⟩

end Go.Proofs.Ythpfkdaijiaalaa
