/- The sum: the program's and the reference's. -/
import Derived.Test.YthpfkdaijiaalaaE
namespace Go.Proofs.Ythpfkdaijiaalaa
open Go.RowKit

def stp (s : Nat) : Nat := if s % 2 = 1 then s / 2 ^^^ 3988292384 else s / 2
def stpN : Nat → Nat → Nat
  | 0, s => s
  | k + 1, s => stp (stpN k s)
def crcStep (s : Nat) (x : UInt8) : Nat := stpN 8 (s ^^^ x.toNat)
def crcAll (bs : List UInt8) : Nat := bs.foldl crcStep 4294967295
def sumB (bs : List UInt8) : Nat := 4294967295 - crcAll bs
def sealB (bs : List UInt8) : List UInt8 := bs ++ leB (sumB bs) 4

theorem stp_lt {s : Nat} (h : s < 4294967296) : stp s < 4294967296 := by
  unfold stp; split
  · exact Nat.xor_lt_two_pow (n := 32) (by omega) (by omega)
  · omega
theorem stpN_lt {s : Nat} (h : s < 4294967296) : ∀ k, stpN k s < 4294967296
  | 0 => h
  | k + 1 => stp_lt (stpN_lt h k)
theorem byte_lt (x : UInt8) : x.toNat < 256 := x.toNat_lt
theorem xor_byte_lt {s : Nat} (h : s < 4294967296) (x : UInt8) : s ^^^ x.toNat < 4294967296 := Nat.xor_lt_two_pow (n := 32) (by omega) (by have := byte_lt x; omega)
theorem crcStep_lt {s : Nat} (h : s < 4294967296) (x : UInt8) : crcStep s x < 4294967296 := stpN_lt (xor_byte_lt h x) 8
theorem foldl_lt (bs : List UInt8) : ∀ s, s < 4294967296 → bs.foldl crcStep s < 4294967296 := by
  induction bs with
  | nil => intro s h; exact h
  | cons x xs ih => intro s h; exact ih _ (crcStep_lt h x)
theorem crcAll_lt (bs : List UInt8) : crcAll bs < 4294967296 := foldl_lt bs _ (by omega)
theorem sumB_lt (bs : List UInt8) : sumB bs < 4294967296 := by unfold sumB; omega

theorem ofInt32 (a : Nat) (ha : a < 4294967296) : (BitVec.ofInt 32 (a : Int)).toNat = a := by
  rw [BitVec.ofInt_natCast, BitVec.toNat_ofNat]; exact Nat.mod_eq_of_lt (by omega)
theorem xor_u32 (a b : Nat) (ha : a < 4294967296) (hb : b < 4294967296) : bits .xor .u32 (a : Int) (b : Int) = ((a ^^^ b : Nat) : Int) := by
  have hx : a ^^^ b < 2 ^ 32 := Nat.xor_lt_two_pow (by omega) (by omega)
  show IntKind.u32.wrap ((BitVec.ofInt 32 (a : Int) ^^^ BitVec.ofInt 32 (b : Int)).toNat : Int) = _
  rw [BitVec.toNat_xor, ofInt32 a ha, ofInt32 b hb, IntKind.wrap_u32]
  omega
theorem and_u32 (a b : Nat) (ha : a < 4294967296) (hb : b < 4294967296) : bits .and .u32 (a : Int) (b : Int) = ((a &&& b : Nat) : Int) := by
  have hx : a &&& b < 2 ^ 32 := Nat.and_lt_two_pow _ (by omega)
  show IntKind.u32.wrap ((BitVec.ofInt 32 (a : Int) &&& BitVec.ofInt 32 (b : Int)).toNat : Int) = _
  rw [BitVec.toNat_and, ofInt32 a ha, ofInt32 b hb, IntKind.wrap_u32]
  omega
theorem stp_go (s : Nat) (hs : s < 4294967296) : bits .xor .u32 ((s : Int) / 2) (bits .and .u32 3988292384 (-bits .and .u32 (s : Int) 1 % 4294967296)) = ((stp s : Nat) : Int) := by
  have h1 : bits .and .u32 (s : Int) 1 = ((s % 2 : Nat) : Int) := by
    have := and_u32 s 1 hs (by omega)
    rw [Nat.and_one_is_mod] at this; exact this
  rw [h1]
  have h2 : (s : Int) / 2 = ((s / 2 : Nat) : Int) := by omega
  rw [h2]
  unfold stp
  rcases Nat.mod_two_eq_zero_or_one s with h | h
  · rw [h, if_neg (by omega)]
    have h3 : bits .and .u32 3988292384 (-((0 : Nat) : Int) % 4294967296) = ((0 : Nat) : Int) := by decide +kernel
    rw [h3, xor_u32 _ _ (by omega) (by omega), Nat.xor_zero]
  · rw [h, if_pos rfl]
    have h3 : bits .and .u32 3988292384 (-((1 : Nat) : Int) % 4294967296) = ((3988292384 : Nat) : Int) := by decide +kernel
    rw [h3, xor_u32 _ _ (by omega) (by omega)]

theorem compl32 (s : Nat) (hs : s < 4294967296) : bits .xor .u32 IntKind.u32.max (s : Int) = ((4294967295 - s : Nat) : Int) := by
  have h0 : (IntKind.u32.max : Int) = ((4294967295 : Nat) : Int) := by decide +kernel
  rw [h0, xor_u32 _ _ (by omega) hs]
  have h1 := congrArg BitVec.toNat (BitVec.allOnes_xor (x := BitVec.ofNat 32 s))
  rw [BitVec.toNat_xor, BitVec.toNat_not, BitVec.toNat_allOnes, BitVec.toNat_ofNat, Nat.mod_eq_of_lt (show s < 2 ^ 32 by omega)] at h1
  have h2 : (4294967295 : Nat) ^^^ s = 4294967295 - s := by
    have e : (2 ^ 32 - 1 : Nat) = 4294967295 := by decide
    rw [e] at h1; omega
  rw [h2]

theorem step_any (s : Nat) (hs : s < 4294967296) (x : UInt8) (w : World) : Calls Try.prog 140 #[.int .u32 s, u8v x] w fun e w' => e = .returned (.int .u32 (crcStep s x)) ∧ w = w' := by
  refine hide_post fun R hR => ?_
  simp only [u8v]
  have HX := Hd.mk (byte_lt x)
  have HS := Hd.mk hs
  clear hs
  go_enter Try.func140, Try.ntmps140
  go_wp2
  go_loopg [0, 9] 8 (fun k' v0 v9 wr => ∃ i : Nat, Hd (i ≤ 8 ∧ k' = 8 - i) ∧ v9 = .int .i64 i ∧ v0 = .int .u32 (stpN i (s ^^^ x.toNat) : Nat) ∧ Hd (w = wr))
  case atStart =>
    refine ⟨0, ⟨by omega⟩, rfl, ?_, ⟨rfl⟩⟩
    have := xor_u32 s x.toNat HS.out (by have := HX.out; omega)
    have e : (x.toNat : Int) % 4294967296 = x.toNat := by have := HX.out; omega
    first | (rw [e, this]; rfl) | (rw [this]; rfl)
  case round =>
    obtain ⟨i, hi, rfl, rfl, hw⟩ := hrel
    by_cases hlt : (i : Int) < 8
    · go_wp2
      go_roundg (8 - (i + 1))
      case measure => have := hi.out; omega
      case rel =>
        refine ⟨i + 1, ⟨by have := hi.out; omega⟩, by go_num, ?_, hw⟩
        rw [stp_go _ (stpN_lt (xor_byte_lt HS.out x) i)]; rfl
    · have hie : Hd (i = 8) := ⟨by have := hi.out; omega⟩
      go_wp2
      exact hR.out _ _ ⟨by rw [hie.out]; rfl, hw.out⟩

theorem foldl_take_succ {α β : Type} (f : β → α → β) (s : β) (xs : List α) (i : Nat) (x : α) (h : xs[i]? = some x) : (xs.take (i + 1)).foldl f s = f ((xs.take i).foldl f s) x := by
  rw [List.take_add_one, h]; simp

theorem more_any (A : Option Addr) (n c : Nat) (xs : List UInt8) (w : World) (hs : SlAt enc8 w A n c xs) (hn : n ≤ 140737488355328) :
    Calls Try.prog 137 #[.int .i64 0, .slice A n c] w fun e w' => e = .returned (.tuple #[.int .i64 (sumB xs), .int .i64 0]) ∧ w = w' := by
  refine hide_post fun R hR => ?_
  have HS := Hd.mk hs; clear hs
  have hn' : (n : Int) ≤ 140737488355328 := by omega
  clear hn
  go_enter Try.func137, Try.ntmps137
  go_wp2
  go_loopg [6, 20] n (fun k' v6 v20 wr => ∃ i : Nat, Hd (i ≤ n ∧ k' = n - i) ∧ v20 = .int .i64 i ∧ v6 = .int .u32 ((xs.take i).foldl crcStep 4294967295 : Nat) ∧ w = wr)
  case atStart =>
    refine ⟨0, ⟨by omega⟩, rfl, ?_, rfl⟩
    first | rfl | (simp; done) | (simp; decide +kernel)
  case round =>
    obtain ⟨i, hi, rfl, rfl, rfl⟩ := hrel
    have hlt32 := Hd.mk (foldl_lt (xs.take i) 4294967295 (by omega))
    by_cases hlt : (i : Int) < n
    · have hx : xs[i]? = some (xs[i]?.getD 0) := by
        have : i < xs.length := by rw [HS.out.len]; omega
        simp [this]
      obtain ⟨ad, rfl, hcell⟩ := HS.out.at_ (sz := 1) (fun _ => rfl) i _ hx
      have hcell := hcell 0 _ rfl
      simp only [Nat.mul_one, Nat.add_zero] at hcell
      have hx := Hd.mk hx
      generalize xs[i]?.getD 0 = x at hx hcell
      go_wp2_with (go_at_call 140; refine (step_any _ hlt32.out x _).mono ?_; rintro e w' ⟨rfl, rfl⟩)
      go_roundg (n - (i + 1))
      case measure => have := hi.out; omega
      case rel => exact ⟨i + 1, ⟨by have := hi.out; omega⟩, by go_num, by rw [foldl_take_succ _ _ _ _ _ hx.out], rfl⟩
    · have hin : Hd (i = n) := ⟨by have := hi.out; omega⟩
      go_wp2
      refine hR.out _ _ ⟨?_, rfl⟩
      have hl := hlt32.out
      have ht : xs.take i = xs := List.take_of_length_le (by rw [HS.out.len, hin.out]; omega)
      rw [ht] at hl ⊢
      rw [compl32 _ hl]
      have e : wrap64 ((4294967295 - List.foldl crcStep 4294967295 xs : Nat) : Int) = ((sumB xs : Nat) : Int) := by unfold sumB crcAll wrap64; omega
      rw [e]

theorem sum_any (A : Option Addr) (n c : Nat) (xs : List UInt8) (w : World) (hs : SlAt enc8 w A n c xs) (hn : n ≤ 140737488355328) :
    Calls Try.prog 124 #[.slice A n c] w fun e w' => e = .returned (.int .i64 (sumB xs)) ∧ w = w' := by
  refine hide_post fun R hR => ?_
  go_enter Try.func124, Try.ntmps124
  go_wp2_with (go_at_call 137; refine (more_any A n c xs w hs hn).mono ?_; rintro e w' ⟨rfl, rfl⟩)
  exact hR.out _ _ ⟨rfl, rfl⟩

theorem Keep.ext_of {S : Nat → Prop} {w w' : World} (h : Keep S w w') (hS : ∀ k, S k → w.heap.size ≤ k) : Ext w w' := h.weaken (fun k hk hs => by have := hS k hs; omega)

theorem Wr.ext {B : Nat} {w w' : World} {g : Nat} {bs : List UInt8} (h : Wr B w g bs) (hk : Ext w w') : Wr B w' g bs := by
  obtain ⟨A, c, hb, ho⟩ := h.row
  exact ⟨h.ge, A, c, hk.blk hb id, ho.ext hk⟩
theorem seal_any (A : Option Addr) (n c : Nat) (xs : List UInt8) (w : World) (hs : SlAt enc8 w A n c xs) (hn : n ≤ 100000000000) :
    Calls Try.prog 85 #[.slice A n c] w (RetOwn enc8 1 5 w (sealB xs)) := by
  refine hide_post fun R hR => ?_
  have HS := Hd.mk hs; clear hs
  have HN := Hd.mk hn; clear hn
  go_enter Try.func85, Try.ntmps85
  go_wp2_with fail
  refine (wnew_any w).mono ?_
  rintro e w1 ⟨rfl, hw1, hk1⟩
  have hw1 := Hd.mk hw1
  have hk1 := Hd.mk hk1
  go_wp2_with fail
  refine (sum_any A n c xs w1 (HS.out.ext hk1.out) (by have := HN.out; omega)).mono ?_
  rintro e w1' ⟨rfl, rfl⟩
  have HB := Hd.mk (sumB_lt xs)
  go_wp2_with fail
  refine (wnum_ok w.heap.size w.heap.size [] _ 4 rfl ?_ ?_ ?_ w1 hw1.out ?_).mono ?_
  · omega
  · have := HB.out; omega
  · intro _; have := HB.out; omega
  · simp
  rintro e w2 ⟨rfl, hw2, hk2⟩
  have hw2 := Hd.mk hw2
  have hk2 : Hd (Ext w w2) := ⟨(hk1.out.trans (T := fun k => w.heap.size ≤ k) (Keep.weaken hk2 (fun _ _ h => h)) (fun k hk h => by omega))⟩
  simp only [Int.toNat_natCast, List.nil_append] at hw2
  go_wp2_with fail
  refine (clone8_any A n c xs w2 (HS.out.ext hk2.out) (by have := HN.out; omega)).mono ?_
  rintro e w3 ⟨A3, c3, rfl, ho3, hk3⟩
  have ho3 := Hd.mk ho3
  have hk3 := Hd.mk hk3
  have hw3 := Hd.mk (hw2.out.ext hk3.out)
  have hl3 : Hd (xs.length ≤ 100000000000) := ⟨by have := HN.out; have := HS.out.len; omega⟩
  generalize xs.length = L at ho3 hl3
  go_wp2_with fail
  refine (wbytes_any w.heap.size w.heap.size _ w3 hw3.out (by rw [leB_len]; omega)).mono ?_
  rintro e w4 ⟨A4, c4, rfl, ho4, hk4⟩
  have ho4 := Hd.mk ho4
  have hk4 := Hd.mk hk4
  generalize hM : (leB (sumB xs) 4).length = M at ho4
  have hM : Hd (M = 4) := ⟨by rw [← hM, leB_len]⟩
  go_wp2_with (at_builtin; refine wp_app Try.E8 rfl _ _ rfl rfl (ho3.out.ext hk4.out) rfl ho4.out.sl ?c1 ?c2 ?c3 ?_)
  case c1 => have := hl3.out; have := hM.out; omega
  case c2 => have := hl3.out; have := hM.out; omega
  case c3 => exact Nat.le_trans hk3.out.size hk4.out.size
  intro A5 c5 w5 ho5 hk5 _
  have ho5 := Hd.mk ho5
  have hk5 : Hd (Ext w w5) := ⟨((hk2.out.ext hk3.out).ext hk4.out).trans hk5 (fun k hk hf => by
    have := (ho3.out.ge hf).1; have := hk2.out.size; omega)⟩
  go_wp2
  refine hR.out _ _ ⟨A5, c5, ?_, ?_, hk5.out⟩
  · show _ = Ending.returned (.slice A5 (xs ++ leB (sumB xs) 4).length c5)
    have hl := ho5.out.len
    rw [hl]; rfl
  · have hl := ho5.out.len
    show Own enc8 1 5 w.heap.size w5 A5 (xs ++ leB (sumB xs) 4).length c5 (xs ++ leB (sumB xs) 4)
    rw [hl]; exact ho5.out.lower hk2.out.size

/-- Whether bytes carry their sum. -/
def openOk (xs : List UInt8) : Prop := 4 ≤ xs.length ∧ leN (xs.drop (xs.length - 4)) = sumB (xs.take (xs.length - 4))
instance (xs : List UInt8) : Decidable (openOk xs) := by unfold openOk; infer_instance
def RetOpen (w : World) (xs : List UInt8) (e : Ending) (w' : World) : Prop :=
  Ext w w' ∧ (openOk xs → ∃ A c, e = .returned (.tuple #[.slice A (xs.length - 4) c, .int .i64 0]) ∧ Own enc8 1 5 w.heap.size w' A (xs.length - 4) c (xs.take (xs.length - 4))) ∧
    (¬ openOk xs → e = .returned (.tuple #[.slice none 0 0, .int .i64 (if xs.length < 4 then 10 else 20)]))

theorem leN_lt4 {xs : List UInt8} (h : xs.length ≤ 4) : leN xs < 4294967296 := by
  refine Nat.lt_of_lt_of_le (leN_lt xs) ?_
  rw [show (4294967296 : Nat) = 256 ^ 4 by rfl]
  exact Nat.pow_le_pow_right (by omega) h

set_option maxRecDepth 100000 in
theorem open_any (A : Option Addr) (n c : Nat) (xs : List UInt8) (w : World) (hs : SlAt enc8 w A n c xs) (hn : n ≤ 140737488355328) :
    Calls Try.prog 89 #[.slice A n c] w (RetOpen w xs) := by
  refine hide_post fun R hR => ?_
  have HS := Hd.mk hs; clear hs
  have HN := Hd.mk hn; clear hn
  have hnb : (n : Int) ≤ 140737488355328 := by have := HN.out; omega
  by_cases h4 : n < 4
  · have hd : (n : Int) - 4 < 0 := by omega
    have h4 := Hd.mk h4
    go_enter Try.func89, Try.ntmps89
    go_wp2
    have hl := HS.out.len
    exact hR.out _ _ ⟨ext_refl w, fun h => by have := h.1; have := h4.out; omega, fun _ => by rw [if_pos (by have := h4.out; omega)]; rfl⟩
  · obtain ⟨m, rfl⟩ : ∃ m, n = m + 4 := ⟨n - 4, by omega⟩
    clear h4
    have hm0 : (0 : Int) ≤ (m : Int) := by omega
    have hmb : (m : Int) ≤ 140737488355328 := by have := HN.out; omega
    clear hnb
    have hL : Hd (xs.length - 4 = m ∧ 4 ≤ xs.length) := ⟨by have := HS.out.len; omega⟩
    obtain ⟨A1, N1, c1, hN1, hs1, ha1, hcut⟩ := cut_from Try.E8 HS.out m (by omega)
    obtain ⟨ht, hcut2⟩ := cut_to Try.E8 HS.out m (by omega)
    have hsum : ((m + 4 : Nat) : Int) - 4 = (m : Int) := by omega
    go_enter Try.func89, Try.ntmps89
    go_wp2_with fail
    refine (rof_any A1 N1 c1 _ w hs1.out (by have := hN1.out; omega)).mono ?_
    rintro e w1 ⟨g, rfl, hg, hr, hk1⟩
    have hr := Hd.mk hr
    have hk1 := Hd.mk hk1
    have hg := Hd.mk hg
    go_wp2_with fail
    refine (rnum_any g _ 0 4 rfl w1 hr.out).mono ?_
    rintro e w2 ⟨rfl, hr2, hk2⟩
    have hd4 : Hd ((xs.drop m).length = 4) := ⟨by rw [List.length_drop, HS.out.len]; omega⟩
    have hval : Hd ((rNum (xs.drop m) 0 4).1 = (leN (xs.drop m) : Int)) := ⟨by
      have h1 := hd4.out
      rw [rNum_ok (by omega) (by rw [List.take_of_length_le (by omega)]; have := leN_lt4 (xs := xs.drop m) (by omega); omega)]
      rw [List.take_of_length_le (by omega)]⟩
    have hk2 : Hd (Ext w w2) := ⟨hk1.out.trans hk2 (fun k hk h => by have := hg.out; omega)⟩
    rw [hval.out]
    generalize (rNum (xs.drop m) 0 4).2.1 = er
    clear hr2
    go_wp2_with fail
    refine (sum_any A m c _ w2 (ht.out.ext hk2.out) (by omega)).mono ?_
    rintro e w2' ⟨rfl, rfl⟩
    by_cases heq : leN (xs.drop m) = sumB (xs.take m)
    · have hok : Hd (openOk xs) := ⟨⟨hL.out.2, by rw [hL.out.1]; exact heq⟩⟩
      have hd : ((leN (xs.drop m) : Int) != (sumB (xs.take m) : Int)) = false := by simp [heq]
      clear heq
      go_wp2_with fail
      refine (clone8_any A m c _ w2 (ht.out.ext hk2.out) (by omega)).mono ?_
      rintro e w3 ⟨A3, c3, rfl, ho3, hk3⟩
      have hl3 : (xs.take m).length = m := by rw [List.length_take, HS.out.len]; omega
      rw [hl3] at ho3 ⊢
      have ho3 := Hd.mk ho3
      have hk3 := Hd.mk hk3
      clear hl3
      go_wp2
      exact hR.out _ _ ⟨hk2.out.ext hk3.out, fun _ => ⟨A3, c3, by rw [hL.out.1]; rfl, by rw [hL.out.1]; exact ho3.out.lower hk2.out.size⟩, fun h => absurd hok.out h⟩
    · have hno : Hd (¬ openOk xs) := ⟨fun h => heq (by have := h.2; rw [hL.out.1] at this; exact this)⟩
      have hd : ((leN (xs.drop m) : Int) != (sumB (xs.take m) : Int)) = true := by rw [bne_iff_ne]; omega
      clear heq
      go_wp2
      exact hR.out _ _ ⟨hk2.out, fun h => absurd h hno.out, fun _ => by rw [if_neg (by have := hL.out; omega)]; rfl⟩
end Go.Proofs.Ythpfkdaijiaalaa
